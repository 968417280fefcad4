/-
  'WordBits' tells true, of any words: the walk.
-/
import Derived.Test.YtjbmlnkacfbheaaWordTopB
import Derived.Test.YtjbmlnkacfbheaaWordBitsSp
namespace Go.Proofs.Ytjbmlnkacfbheaa.BitsW
open Go.RowKit
set_option linter.unusedVariables false
theorem w64_0 : Sp.W64 0 := ⟨by decide, by decide⟩
theorem w64_wrap (x : Int) : Sp.W64 (IntKind.u64.wrap x) := by rw [IntKind.wrap_u64]; exact Sp.mod_bd _ (by decide)
theorem w64_of {x : Int} (h : (Lit.int .u64 x).wf = true) : Sp.W64 x := by
  simp only [Lit.wf, Bool.and_eq_true, decide_eq_true_eq] at h
  have h1 : IntKind.u64.min = 0 := rfl
  have h2 : IntKind.u64.max = 18446744073709551615 := rfl
  exact ⟨by omega, by omega⟩
theorem b5' (wide : Bool) {a s : Int} (hs : Sp.W64 s) : (Sp.val 192 0 wide a (IntKind.u64.wrap (s + 64)) == Sp.val 192 0 wide a s) = true := by rw [IntKind.wrap_u64]; exact Sp.b5 wide hs
set_option maxRecDepth 100000 in
set_option maxHeartbeats 4000000 in
theorem walkT (a b s : Int) (w : World) (ha : Sp.W64 a) (hb : Sp.W64 b) (hs : Sp.W64 s) :
    Calls Try.prog 5 #[.int .u64 a, .int .u64 b, .int .u64 s, .bool true] w fun e w' => e = .returned (.bool true) ∧ Sp.Ok w w' := by
  have h1 := Sp.b1 true ha hb
  have h2 := Sp.b2 true ha hb
  have h3 := Sp.b3t ha hs
  have h4 := Sp.b4 true ha
  have h5 := b5' true (a := a) hs
  have hs1 : 0 ≤ s := hs.1
  go_enter Try.func5, Try.ntmps5
  go_wp2_with (first | (go_at_call 9; refine (Top.awake _).mono ?_; rintro e w' ⟨rfl, hk⟩) | (go_at_call 12; refine (Top.lawAlu _ _ _ _ _ _ (by decide) (by decide) (by decide) (by decide) (by repeat' first | assumption | exact w64_0 | exact w64_wrap _ | refine Sp.val_w64 ?_ ?_) (by repeat' first | assumption | exact w64_0 | exact w64_wrap _ | refine Sp.val_w64 ?_ ?_)).mono ?_; rintro e w' ⟨rfl, hk⟩))
  go_ret
  exact ⟨rfl, by repeat (first | exact Sp.Ok.refl _ | assumption | refine Sp.Ok.trans ?_ (by assumption))⟩
set_option maxRecDepth 100000 in
set_option maxHeartbeats 4000000 in
theorem walkF (a b s : Int) (w : World) (ha : Sp.W64 a) (hb : Sp.W64 b) (hs : Sp.W64 s) :
    Calls Try.prog 5 #[.int .u64 a, .int .u64 b, .int .u64 s, .bool false] w fun e w' => e = .returned (.bool true) ∧ Sp.Ok w w' := by
  have h1 := Sp.b1 false ha hb
  have h2 := Sp.b2 false ha hb
  have h3 := Sp.b3f ha hs
  have h4 := Sp.b4 false ha
  have h5 := b5' false (a := a) hs
  have hs1 : 0 ≤ s := hs.1
  go_enter Try.func5, Try.ntmps5
  go_wp2_with (first | (go_at_call 9; refine (Top.awake _).mono ?_; rintro e w' ⟨rfl, hk⟩) | (go_at_call 12; refine (Top.lawAlu _ _ _ _ _ _ (by decide) (by decide) (by decide) (by decide) (by repeat' first | assumption | exact w64_0 | exact w64_wrap _ | refine Sp.val_w64 ?_ ?_) (by repeat' first | assumption | exact w64_0 | exact w64_wrap _ | refine Sp.val_w64 ?_ ?_)).mono ?_; rintro e w' ⟨rfl, hk⟩))
  go_ret
  exact ⟨rfl, by repeat (first | exact Sp.Ok.refl _ | assumption | refine Sp.Ok.trans ?_ (by assumption))⟩
theorem walk (a b s : Int) (wide : Bool) (h0 : (Lit.int .u64 a).wf = true) (h1 : (Lit.int .u64 b).wf = true) (h2 : (Lit.int .u64 s).wf = true) (w : World) :
    Calls Try.prog 5 #[.int .u64 a, .int .u64 b, .int .u64 s, .bool wide] w fun e w' => e = .returned (.bool true) ∧ Below w.heap.size w w' := by
  cases wide
  · exact walkF a b s w (w64_of h0) (w64_of h1) (w64_of h2)
  · exact walkT a b s w (w64_of h0) (w64_of h1) (w64_of h2)
end Go.Proofs.Ytjbmlnkacfbheaa.BitsW
