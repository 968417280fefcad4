/-
  scalar.Right, One; tnum.Has, Leq; span.Has, Leq.
-/
import Derived.Test.YtmbmmcippglfoaaOfG
import Derived.Test.YtmbmmcippglfoaaGC
import Derived.Test.YtmbmmcippglfoaaSpA
namespace Go.Proofs.Ytmbmmcippglfoaa.M
open Go.RowKit Go.Shelf
set_option linter.unusedVariables false
set_option linter.unusedSectionVars false
set_option linter.unusedSimpArgs false
set_option maxRecDepth 100000 in
set_option maxHeartbeats 4000000 in
theorem scRight0 (v m lo hi : Nat) (sl sh : Int) (w : World) (hr : Rg ⟨⟨v, m⟩, ⟨lo, hi, sl, sh⟩⟩) : Calls Try.prog 14 #[.agg #[.int .u64 v, .int .u64 m, .int .u64 lo, .int .u64 hi, .int .i64 sl, .int .i64 sh]] w fun e w' => e = .returned (.bool (rightB ⟨⟨v, m⟩, ⟨lo, hi, sl, sh⟩⟩)) ∧ But [] w w' := by
  have HO := Lib.hid (fun w => scOf ⟨⟨v, m⟩, ⟨lo, hi, sl, sh⟩⟩ w hr)
  clear hr
  cases hg : ofT ⟨⟨v, m⟩, ⟨lo, hi, sl, sh⟩⟩ with
  | none =>
    have HE : Hid (rightB ⟨⟨v, m⟩, ⟨lo, hi, sl, sh⟩⟩ = false) := Lib.hid (by simp [rightB, hg])
    rw [hg] at HO
    clear hg
    go_enter Try.func14, Try.ntmps14
    go_wp2_with fail
    refine (HO.out _).mono ?_
    rintro e w5 ⟨rfl, hb5⟩
    have hB := bx hb5
    have HB := Lib.hid hb5
    clear hb5 hB
    simp only [Option.isSome, Option.getD, zeroSc, Sc.val]
    go_wp2_with fail
    go_ret
    exact ⟨(by rw [HE.out]; first | done | rfl), (((But.refl [] w).alloc _).trans HB.out (by simp)).alloc _⟩
  | some g =>
    obtain ⟨⟨gv, gm⟩, ⟨gl, gh, gi, gj⟩⟩ := g
    rw [hg] at HO
    have HE : Hid (rightB ⟨⟨v, m⟩, ⟨lo, hi, sl, sh⟩⟩ = decide ((⟨⟨gv, gm⟩, ⟨gl, gh, gi, gj⟩⟩ : Sc) = ⟨⟨v, m⟩, ⟨lo, hi, sl, sh⟩⟩)) := Lib.hid (by simp [rightB, hg])
    clear hg
    go_enter Try.func14, Try.ntmps14
    go_wp2_with fail
    refine (HO.out _).mono ?_
    rintro e w5 ⟨rfl, hb5⟩
    have hB := bx hb5
    obtain ⟨b0, b1, b2, b3, b4, b5⟩ := c6_of hB
    have hz := lt_of hB
    have HB := Lib.hid hb5
    clear hb5 hB
    simp only [Option.isSome, Option.getD, Sc.val]
    go_wp2_with fail
    all_goals go_ret
    all_goals refine ⟨?_, (((But.refl [] w).alloc _).trans HB.out (by simp)).alloc _⟩
    all_goals first
      | exact congrArg (fun b => Ending.returned (Value.bool b)) (show true = _ from by rw [HE.out]; symm; rw [decide_eq_true_eq]; simp only [Sc.mk.injEq, Tn.mk.injEq, Sp.mk.injEq]; omega)
      | exact congrArg (fun b => Ending.returned (Value.bool b)) (show false = _ from by rw [HE.out]; symm; rw [decide_eq_false_iff_not]; simp only [Sc.mk.injEq, Tn.mk.injEq, Sp.mk.injEq]; omega)
theorem scRight (s : Sc) (w : World) (hr : Rg s) : Calls Try.prog 14 #[s.val] w fun e w' => e = .returned (.bool (rightB s)) ∧ But [] w w' := scRight0 _ _ _ _ _ _ w hr
end Go.Proofs.Ytmbmmcippglfoaa.M
