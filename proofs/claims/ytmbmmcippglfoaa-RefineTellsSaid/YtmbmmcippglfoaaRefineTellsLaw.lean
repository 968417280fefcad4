/-
  'RefineTells' of hatchwaylaw21: of any arguments it tells true, and each argument reads as it did. No condition.
-/
import Derived.Test.YtmbmmcippglfoaaRows
import Derived.WalkKit
import Derived.ProofKit
import Derived.OpenShut
import Derived.Below
import Derived.Test.YtmbmmcippglfoaaGG
import Derived.Test.YtmbmmcippglfoaaTe
namespace Go.Proofs.Ytmbmmcippglfoaa.refineTells
open Go.ChangeShapes Go.WideShapes Go.ChangeAt Go.RowKit
set_option linter.unusedVariables false

theorem own : ownKnob Try.prog.godebug = none := by kernel_rfl

set_option maxRecDepth 100000 in
theorem lifted (os : Os) (started : os.Started) (H : Type) (enc : TypeId × Value → H) :
    ReturnsInHanded {} Try.checked os 3 .any (Rows.refineTellsSpec.pre6 enc Try.prog Try.f3 Rows.refineTellsRow.domain false) (Rows.refineTellsSpec.post enc Try.prog Try.f3 false true false false) := by
  refine returnsInHanded_of_change_sized (C := Try.checked) own started (by kernel_rfl) Try.func3
    (ChangeSpec.witness6 (enc := enc) (C := Try.checked) false ⟨#[], #[.int .u8 0, .bool false, .agg #[.int .u64 0, .int .u64 0, .int .u64 0, .int .u64 0, .int .i64 0, .int .i64 0], .agg #[.int .u64 0, .int .u64 0, .int .u64 0, .int .u64 0, .int .i64 0, .int .i64 0], .bool false], []⟩ 8 (by kernel_rfl) (by kernel_rfl) (by kernel_rfl) (by kernel_rfl)) ?_
  intro W base args ds gs before hval0 hW hcnd hsz0 _
  have hval : ∀ (j : Nat) t v, Try.f3.params[j]? = some t → args[j]? = some v → Value.okWide Try.prog W .any base t v := hval0
  have hW' := hW
  obtain ⟨p, q, hA0, hV, rfl, hfz, hnd⟩ := hW
  have hA : DataW.TrodAll enc Try.prog W 0 (fun _ => true) true Try.f3.params.toList args.toList ds p := hA0
  have hsz : (DataW.weightsEach Try.prog (Try.f3.params.toList ++ Rows.refineTellsSpec.plain.varTypes Try.prog) (ds ++ gs)).all (· ≤ reachBytes) = true := hsz0
  rw [Try.params3] at hA hval hsz
  have hAk := hA
  obtain ⟨v0, vs0, d0, ds0, p0, q0, hargs, rfl, hp0, h0, r0⟩ := trodAll_cons hA
  obtain ⟨v1, vs1, d1, ds1, p1, q1, rfl, rfl, hp1, h1, r1⟩ := trodAll_cons r0
  obtain ⟨v2, vs2, d2, ds2, p2, q2, rfl, rfl, hp2, h2, r2⟩ := trodAll_cons r1
  obtain ⟨v3, vs3, d3, ds3, p3, q3, rfl, rfl, hp3, h3, r3⟩ := trodAll_cons r2
  obtain ⟨v4, vs4, d4, ds4, p4, q4, rfl, rfl, hp4, h4, r4⟩ := trodAll_cons r3
  obtain ⟨rfl, rfl, rfl⟩ := trodAll_nil r4
  obtain rfl : args = #[v0, v1, v2, v3, v4] := by cases args; simp_all
  obtain ⟨rfl, rfl⟩ := trodVars_none hV
  have hS := fun (j : Nat) (t : TypeId) (d : DataW H) (ht : [5, 4, 28, 28, 4][j]? = some t) (hd : [d0, d1, d2, d3, d4][j]? = some d) => M.sized_at (H := H) hsz j t d ((List.getElem?_append_left (List.getElem?_eq_some_iff.1 ht).1).trans ht) (by simpa using hd)
  have ho0 := open_int Try.underlying5 (hval 0 5 v0 rfl rfl) h0
  obtain ⟨a0, hv0, _, _, w0⟩ := ho0
  subst hv0
  have ho1 := open_bool Try.underlying4 (hval 1 4 v1 rfl rfl) h1
  obtain ⟨a1, hv1, _, _⟩ := ho1
  subst hv1
  obtain ⟨x2, e2, s2⟩ := M.scalar_in (hval 2 28 v2 rfl rfl) h2 (hS 2 28 d2 rfl rfl)
  subst e2
  obtain ⟨x3, e3, s3⟩ := M.scalar_in (hval 3 28 v3 rfl rfl) h3 (hS 3 28 d3 rfl rfl)
  subst e3
  have ho4 := open_bool Try.underlying4 (hval 4 4 v4 rfl rfl) h4
  obtain ⟨a4, hv4, _, _⟩ := ho4
  subst hv4
  clear hA0 hval0 hsz0
  simp only [List.append_nil] at hW'
  refine (M.refTells_walk W a0 a1 x2 x3 a4 w0 s2 s3).mono fun e W' ⟨he, hg⟩ => ?_
  subst he
  exact ⟨_, rfl, _, _, _, [], _, [], hW', (trodAll_cons_mk (shut_bool Try.underlying4 _) trodAll_mk0), M.args_again (by kernel_rfl) (by kernel_rfl) (by kernel_rfl) (by decide +kernel) hAk hg, rfl, hg.frame _, fun h => by cases h⟩

theorem over : Rows.refineTellsRow.holds Try.pinned (OpenSpec.ofChange Rows.refineTellsSpec) :=
  OpenClaim.holds_of_wide 3 Try.f3 rfl rfl rfl rfl rfl rfl rfl ⟨rfl, rfl, rfl, rfl, rfl⟩ rfl rfl rfl rfl rfl (by kernel_rfl) Try.func3 (by kernel_rfl)
    (of_decide_eq_true (by kernel_rfl)) (by unfold Func.isWrapper; first | (rw [if_pos (by decide +kernel)]; kernel_rfl) | (rw [if_neg (by decide +kernel)]; exact ⟨rfl, rfl⟩))
    (fun os started H enc _ => lifted os started H enc)

theorem proved : Rows.RefineTellsSaid :=
  over
end Go.Proofs.Ytmbmmcippglfoaa.refineTells
