/-
  'WordRing' tells true, of any words: the walk.
-/
import Derived.Test.YtjbmlnkacfbheaaWordTopB
import Derived.Test.YtjbmlnkacfbheaaWordRingSp
namespace Go.Proofs.Ytjbmlnkacfbheaa.RingW
open Go.RowKit
set_option linter.unusedVariables false
theorem w64_0 : Sp.W64 0 := ⟨by decide, by decide⟩
theorem w64_mod (x : Int) : Sp.W64 (x % 4294967296) := ⟨by omega, by omega⟩
set_option maxRecDepth 100000 in
set_option maxHeartbeats 4000000 in
theorem walkT (a b c : Int) (w : World) (ha : Sp.W64 a) (hb : Sp.W64 b) (hc : Sp.W64 c) :
    Calls Try.prog 4 #[.int .u64 a, .int .u64 b, .int .u64 c, .bool true] w fun e w' => e = .returned (.bool true) ∧ Sp.Ok w w' := by
  have hl : a = a % Sp.md true := (Sp.cut_md ha).symm
  have h1 := Sp.r1 true a b
  have h2 := Sp.r2 true a b c
  have h3 := Sp.r3 true a b c
  have h4 := Sp.r4 true a b a hl
  have h5 := Sp.r5 true a c
  have h6 := Sp.r6 true (off := 0) (.inl rfl) ha hb hl
  have h7 := Sp.r6 true (off := 1) (.inr rfl) ha hb hl
  have HL := Lib.hid hl
  clear hl
  go_enter Try.func4, Try.ntmps4
  go_wp2_with (first | (go_at_call 9; refine (Top.awake _).mono ?_; rintro e w' ⟨rfl, hk⟩) | (go_at_call 12; refine (Top.lawAlu _ _ _ _ _ _ (by decide) (by decide) (by decide) (by decide) (by repeat' first | assumption | exact w64_0 | refine Sp.val_w64 ?_ ?_) (by repeat' first | assumption | exact w64_0 | refine Sp.val_w64 ?_ ?_)).mono ?_; rintro e w' ⟨rfl, hk⟩))
  refine wp_loop_rounds 3 ?_
  rw [rounds_succ]
  go_wp2_with (go_at_call 12; refine (Top.lawAlu _ _ _ _ _ _ (by decide) (by decide) (by decide) (by decide) (by repeat' first | assumption | exact w64_0 | refine Sp.val_w64 ?_ ?_) (by repeat' first | assumption | exact w64_0 | refine Sp.val_w64 ?_ ?_)).mono ?_; rintro e w' ⟨rfl, hk⟩)
  rw [rounds_succ]
  go_wp2_with (go_at_call 12; refine (Top.lawAlu _ _ _ _ _ _ (by decide) (by decide) (by decide) (by decide) (by repeat' first | assumption | exact w64_0 | refine Sp.val_w64 ?_ ?_) (by repeat' first | assumption | exact w64_0 | refine Sp.val_w64 ?_ ?_)).mono ?_; rintro e w' ⟨rfl, hk⟩)
  rw [rounds_succ]
  go_wp2_with fail
  go_ret
  exact ⟨rfl, by repeat (first | exact Sp.Ok.refl _ | assumption | refine Sp.Ok.trans ?_ (by assumption))⟩
set_option maxRecDepth 100000 in
set_option maxHeartbeats 4000000 in
theorem walkF (a b c : Int) (w : World) (ha : Sp.W64 a) (hb : Sp.W64 b) (hc : Sp.W64 c) :
    Calls Try.prog 4 #[.int .u64 a, .int .u64 b, .int .u64 c, .bool false] w fun e w' => e = .returned (.bool true) ∧ Sp.Ok w w' := by
  have h1 := Sp.r1 false a b
  have h2 := Sp.r2 false a b c
  have h3 := Sp.r3 false a b c
  have h4 := Sp.r4 false a b (a % 4294967296) rfl
  have h5 := Sp.r5 false a c
  have h6 := Sp.r6 false (off := 0) (low := a % 4294967296) (.inl rfl) ha hb rfl
  have h7 := Sp.r6 false (off := 1) (low := a % 4294967296) (.inr rfl) ha hb rfl
  have ha1 : 0 ≤ a := ha.1
  have hb1 : 0 ≤ b := hb.1
  have h8 := Sp.r7a a b
  have h9 := Sp.r7b a b
  have h10 := Sp.r7c a b
  go_enter Try.func4, Try.ntmps4
  go_wp2_with (first | (go_at_call 9; refine (Top.awake _).mono ?_; rintro e w' ⟨rfl, hk⟩) | (go_at_call 12; refine (Top.lawAlu _ _ _ _ _ _ (by decide) (by decide) (by decide) (by decide) (by repeat' first | assumption | exact w64_0 | refine Sp.val_w64 ?_ ?_) (by repeat' first | assumption | exact w64_0 | refine Sp.val_w64 ?_ ?_)).mono ?_; rintro e w' ⟨rfl, hk⟩))
  refine wp_loop_rounds 3 ?_
  rw [rounds_succ]
  go_wp2_with (go_at_call 12; refine (Top.lawAlu _ _ _ _ _ _ (by decide) (by decide) (by decide) (by decide) (by repeat' first | assumption | exact w64_0 | refine Sp.val_w64 ?_ ?_) (by repeat' first | assumption | exact w64_0 | refine Sp.val_w64 ?_ ?_)).mono ?_; rintro e w' ⟨rfl, hk⟩)
  rw [rounds_succ]
  go_wp2_with (go_at_call 12; refine (Top.lawAlu _ _ _ _ _ _ (by decide) (by decide) (by decide) (by decide) (by repeat' first | assumption | exact w64_0 | refine Sp.val_w64 ?_ ?_) (by repeat' first | assumption | exact w64_0 | refine Sp.val_w64 ?_ ?_)).mono ?_; rintro e w' ⟨rfl, hk⟩)
  rw [rounds_succ]
  go_wp2_with (go_at_call 12; refine (Top.lawAlu _ _ _ _ _ _ (by decide) (by decide) (by decide) (by decide) (by repeat' first | assumption | exact w64_mod _ | refine Sp.val_w64 ?_ ?_) (by repeat' first | assumption | exact w64_mod _ | refine Sp.val_w64 ?_ ?_)).mono ?_; rintro e w' ⟨rfl, hk⟩)
  go_ret
  exact ⟨rfl, by repeat (first | exact Sp.Ok.refl _ | assumption | refine Sp.Ok.trans ?_ (by assumption))⟩

theorem w64_of {x : Int} (h : (Lit.int .u64 x).wf = true) : Sp.W64 x := by
  simp only [Lit.wf, Bool.and_eq_true, decide_eq_true_eq] at h
  have h1 : IntKind.u64.min = 0 := rfl
  have h2 : IntKind.u64.max = 18446744073709551615 := rfl
  exact ⟨by omega, by omega⟩
theorem walk (a b c : Int) (wide : Bool) (h0 : (Lit.int .u64 a).wf = true) (h1 : (Lit.int .u64 b).wf = true) (h2 : (Lit.int .u64 c).wf = true) (w : World) :
    Calls Try.prog 4 #[.int .u64 a, .int .u64 b, .int .u64 c, .bool wide] w fun e w' => e = .returned (.bool true) ∧ Below w.heap.size w w' := by
  cases wide
  · exact walkF a b c w (w64_of h0) (w64_of h1) (w64_of h2)
  · exact walkT a b c w (w64_of h0) (w64_of h1) (w64_of h2)
end Go.Proofs.Ytjbmlnkacfbheaa.RingW
