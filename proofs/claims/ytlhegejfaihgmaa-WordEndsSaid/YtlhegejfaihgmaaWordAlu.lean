/-
  'WordAlu' tells true, of any operation and any words: the walk.
-/
import Derived.Test.YtlhegejfaihgmaaWordTopB
import Derived.Test.YtlhegejfaihgmaaRefA
namespace Go.Proofs.Ytlhegejfaihgmaa.AluW
open Go.RowKit
set_option linter.unusedVariables false
theorem w64_of {x : Int} (h : (Lit.int .u64 x).wf = true) : Sp.W64 x := by
  simp only [Lit.wf, Bool.and_eq_true, decide_eq_true_eq] at h
  have h1 : IntKind.u64.min = 0 := rfl
  have h2 : IntKind.u64.max = 18446744073709551615 := rfl
  exact ⟨by omega, by omega⟩
theorem walk (op off : Int) (wide : Bool) (a b : Int) (h0 : (Lit.int .u8 op).wf = true) (h1 : (Lit.int .i16 off).wf = true) (h3 : (Lit.int .u64 a).wf = true) (h4 : (Lit.int .u64 b).wf = true) (w : World) :
    Calls Try.prog 5 #[.int .u8 op, .int .i16 off, .bool wide, .int .u64 a, .int .u64 b] w fun e w' => e = .returned (.bool true) ∧ Below w.heap.size w w' := by
  have ha := w64_of h3
  have hb := w64_of h4
  have hop : 0 ≤ op ∧ op < 256 := by
    simp only [Lit.wf, Bool.and_eq_true, decide_eq_true_eq] at h0
    have e1 : IntKind.u8.min = 0 := rfl
    have e2 : IntKind.u8.max = 255 := rfl
    omega
  have hoff : -32768 ≤ off ∧ off < 32768 := by
    simp only [Lit.wf, Bool.and_eq_true, decide_eq_true_eq] at h1
    have e1 : IntKind.i16.min = -32768 := rfl
    have e2 : IntKind.i16.max = 32767 := rfl
    omega
  obtain ⟨ho1, ho2⟩ := hop
  obtain ⟨hf1, hf2⟩ := hoff
  clear h0 h1 h3 h4
  cases hx : Sp.aluW op off wide a b with
  | none =>
    have HX := Lib.hid hx
    clear hx
    go_enter Try.func5, Try.ntmps5
    go_wp2_with (first | (go_at_call 4; refine (Top.awake _).mono ?_; rintro e w1 ⟨rfl, hk1⟩) | (go_at_call 7; refine (Top.aluAny _ _ _ _ _ _ ho1 ho2 hf1 hf2 ha hb).mono ?_; rintro e w2 ⟨rfl, hk2⟩; rw [HX.out]; simp only [Sp.res]) | (go_at_call 9; refine (RefA.any _ _ _ _ _ _ ha hb).mono ?_; rintro e w3 ⟨rfl, rfl⟩; rw [HX.out]; simp only [Sp.res]))
    go_ret
    exact ⟨by simp, (show Sp.Ok _ _ from Sp.Ok.trans (by assumption) (by assumption))⟩
  | some r =>
    have HX := Lib.hid hx
    clear hx
    go_enter Try.func5, Try.ntmps5
    go_wp2_with (first | (go_at_call 4; refine (Top.awake _).mono ?_; rintro e w1 ⟨rfl, hk1⟩) | (go_at_call 7; refine (Top.aluAny _ _ _ _ _ _ ho1 ho2 hf1 hf2 ha hb).mono ?_; rintro e w2 ⟨rfl, hk2⟩; rw [HX.out]; simp only [Sp.res]) | (go_at_call 9; refine (RefA.any _ _ _ _ _ _ ha hb).mono ?_; rintro e w3 ⟨rfl, rfl⟩; rw [HX.out]; simp only [Sp.res]))
    go_ret
    exact ⟨by simp, (show Sp.Ok _ _ from Sp.Ok.trans (by assumption) (by assumption))⟩
end Go.Proofs.Ytlhegejfaihgmaa.AluW
