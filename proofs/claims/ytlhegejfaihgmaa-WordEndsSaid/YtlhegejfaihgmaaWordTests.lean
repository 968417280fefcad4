/-
  'WordTests' tells true, of any operation and any words: the walk.
-/
import Derived.Test.YtlhegejfaihgmaaWordTopB
import Derived.Test.YtlhegejfaihgmaaRefT
namespace Go.Proofs.Ytlhegejfaihgmaa.TestsW
open Go.RowKit
set_option linter.unusedVariables false
theorem w64_of {x : Int} (h : (Lit.int .u64 x).wf = true) : Sp.W64 x := by
  simp only [Lit.wf, Bool.and_eq_true, decide_eq_true_eq] at h
  have h1 : IntKind.u64.min = 0 := rfl
  have h2 : IntKind.u64.max = 18446744073709551615 := rfl
  exact ⟨by omega, by omega⟩
theorem i64_of {x : Int} (h : (Lit.int .i64 x).wf = true) : -9223372036854775808 ≤ x ∧ x ≤ 9223372036854775807 := by
  simp only [Lit.wf, Bool.and_eq_true, decide_eq_true_eq] at h
  have h1 : IntKind.i64.min = -9223372036854775808 := rfl
  have h2 : IntKind.i64.max = 9223372036854775807 := rfl
  exact ⟨by omega, by omega⟩
theorem key (n : Int) (h1 : -9223372036854775808 ≤ n) (h2 : n ≤ 9223372036854775807) : Hid ((keyOf Try.prog 3 (.int .i64 n)).isSome = true) := Swp.key n h1 h2
theorem resB_is (o : Option Bool) : ∃ x p, Sp.resB o = .tuple #[.bool x, .bool p] := by cases o <;> exact ⟨_, _, rfl⟩
theorem res_is (o : Option Int) : ∃ x p, Sp.res .u64 o = .tuple #[.int .u64 x, .bool p] := by cases o <;> exact ⟨_, _, rfl⟩
theorem walk (op : Int) (wide : Bool) (a b order width : Int) (signed : Bool) (h0 : (Lit.int .u8 op).wf = true) (h2 : (Lit.int .u64 a).wf = true) (h3 : (Lit.int .u64 b).wf = true) (h4 : (Lit.int .i64 order).wf = true) (h5 : (Lit.int .i64 width).wf = true) (w : World) :
    Calls Try.prog 6 #[.int .u8 op, .bool wide, .int .u64 a, .int .u64 b, .int .i64 order, .int .i64 width, .bool signed] w fun e w' => e = .returned (.bool true) ∧ Below w.heap.size w w' := by
  have ha := w64_of h2
  have hb := w64_of h3
  have hop : 0 ≤ op ∧ op < 256 := by
    simp only [Lit.wf, Bool.and_eq_true, decide_eq_true_eq] at h0
    have e1 : IntKind.u8.min = 0 := rfl
    have e2 : IntKind.u8.max = 255 := rfl
    omega
  have KW := key width (i64_of h5).1 (i64_of h5).2
  obtain ⟨ho1, ho2⟩ := hop
  clear h0 h2 h3 h4 h5
  obtain ⟨x, p, hx⟩ := resB_is (Sp.testW op wide a b)
  obtain ⟨y, q, hy⟩ := res_is (Sp.swap order width a)
  obtain ⟨z, r, hz⟩ := res_is (Sp.extend a width signed)
  have HX := Lib.hid hx
  have HY := Lib.hid hy
  have HZ := Lib.hid hz
  clear hx hy hz
  go_enter Try.func6, Try.ntmps6
  go_wp2_with (first | (go_at_call 4; refine (Top.awake _).mono ?_; rintro e w1 ⟨rfl, hk1⟩) | (go_at_call 10; refine (Top.testAny _ _ _ _ _ ho1 ho2 ha hb).mono ?_; rintro e w2 ⟨rfl, hk2⟩; rw [HX.out]) | (go_at_call 11; refine (RefT.testAny _ _ _ _ _ ha hb).mono ?_; rintro e w3 ⟨rfl, rfl⟩; rw [HX.out]) | (go_at_call 8; refine (Swp.any _ _ _ _ ha.1 ha.2 KW).mono ?_; rintro e w4 ⟨rfl, hk4⟩; rw [HY.out]) | (go_at_call 12; refine (RefT.swapAny _ _ _ _ ha).mono ?_; rintro e w5 ⟨rfl, rfl⟩; rw [HY.out]) | (go_at_call 13; refine (Ext.any _ _ _ _ ha.1 ha.2 KW).mono ?_; rintro e w6 ⟨rfl, hk6⟩; rw [HZ.out]) | (go_at_call 14; refine (RefT.extAny _ _ _ _ ha).mono ?_; rintro e w7 ⟨rfl, rfl⟩; rw [HZ.out]))
  all_goals
    go_ret
    exact ⟨by simp, (show Sp.Ok _ _ from Sp.Ok.trans (Sp.Ok.trans (Sp.Ok.trans (by assumption) (by assumption)) (by assumption)) (by assumption))⟩
end Go.Proofs.Ytlhegejfaihgmaa.TestsW
