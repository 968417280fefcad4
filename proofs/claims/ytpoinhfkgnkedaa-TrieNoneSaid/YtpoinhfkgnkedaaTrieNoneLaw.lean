/-
  'TrieNone' of hatchwaylaw13: of any arguments it tells true, and each argument reads as it did. No condition.
-/
import Derived.Test.YtpoinhfkgnkedaaRows
import Derived.WalkKit
import Derived.ProofKit
import Derived.OpenShut
import Derived.Below
import Derived.Test.YtpoinhfkgnkedaaOpen
import Derived.Test.YtpoinhfkgnkedaaTrieNone
namespace Go.Proofs.Ytpoinhfkgnkedaa.trieNone
open Go.ChangeShapes Go.WideShapes Go.ChangeAt Go.RowKit
set_option linter.unusedVariables false

theorem own : ownKnob Try.prog.godebug = none := by kernel_rfl

set_option maxRecDepth 100000 in
theorem lifted (os : Os) (started : os.Started) (H : Type) (enc : TypeId × Value → H) :
    ReturnsInHanded {} Try.checked os 6 .any (Rows.trieNoneSpec.pre6 enc Try.prog Try.f6 Rows.trieNoneRow.domain false) (Rows.trieNoneSpec.post enc Try.prog Try.f6 false true false false) := by
  refine returnsInHanded_of_change_sized (C := Try.checked) own started (by kernel_rfl) Try.func6
    (ChangeSpec.witness6 (enc := enc) (C := Try.checked) false ⟨#[], #[.agg #[.int .i64 0, .slice none 0 0, .slice none 0 0, .int .u64 0, .int .i64 0, .int .i64 0], .agg #[.int .u8 0, .int .i64 0, .int .i64 0, .int .i64 0]], []⟩ 8 (by kernel_rfl) (by kernel_rfl) (by kernel_rfl) (by kernel_rfl)) ?_
  intro W base args ds gs before hval0 hW hcnd hsz0 _
  have hval : ∀ (j : Nat) t v, Try.f6.params[j]? = some t → args[j]? = some v → Value.okWide Try.prog W .any base t v := hval0
  have hW' := hW
  obtain ⟨p, q, hA0, hV, rfl, hfz, hnd⟩ := hW
  have hA : DataW.TrodAll enc Try.prog W 0 (fun _ => true) true Try.f6.params.toList args.toList ds p := hA0
  have hsz : (DataW.weightsEach Try.prog (Try.f6.params.toList ++ Rows.trieNoneSpec.plain.varTypes Try.prog) (ds ++ gs)).all (· ≤ reachBytes) = true := hsz0
  rw [Try.params6] at hA hval hsz
  have hAk := hA
  obtain ⟨v0, vs0, d0, ds0, p0, q0, hargs, rfl, hp0, h0, r0⟩ := trodAll_cons hA
  obtain ⟨v1, vs1, d1, ds1, p1, q1, rfl, rfl, hp1, h1, r1⟩ := trodAll_cons r0
  obtain ⟨rfl, rfl, rfl⟩ := trodAll_nil r1
  obtain rfl : args = #[v0, v1] := by cases args; simp_all
  obtain ⟨rfl, rfl⟩ := trodVars_none hV
  have hS := fun (j : Nat) (t : TypeId) (d : DataW H) (ht : [36, 24][j]? = some t) (hd : [d0, d1][j]? = some d) => M.sized_at (H := H) hsz j t d ((List.getElem?_append_left (List.getElem?_eq_some_iff.1 ht).1).trans ht) (by simpa using hd)
  obtain ⟨x0, e0, s0⟩ := M.deed_in (hval 0 36 v0 rfl rfl) h0 (hS 0 36 d0 rfl rfl)
  subst e0
  obtain ⟨x1, e1, s1⟩ := M.spec_in (hval 1 24 v1 rfl rfl) h1 (hS 1 24 d1 rfl rfl)
  subst e1
  clear hA0 hval0 hsz0
  simp only [List.append_nil] at hW'
  refine (M.trieNone_walk W x0 x1 s0 s1).mono fun e W' ⟨he, hg⟩ => ?_
  subst he
  exact ⟨_, rfl, _, _, _, [], _, [], hW', (trodAll_cons_mk (shut_bool Try.underlying4 _) trodAll_mk0), M.args_again (by kernel_rfl) (by kernel_rfl) (by kernel_rfl) (by decide +kernel) hAk hg, rfl, hg.frame _, fun h => by cases h⟩

theorem over : Rows.trieNoneRow.holds Try.pinned (OpenSpec.ofChange Rows.trieNoneSpec) :=
  OpenClaim.holds_of_wide 6 Try.f6 rfl rfl rfl rfl rfl rfl rfl ⟨rfl, rfl, rfl, rfl, rfl⟩ rfl rfl rfl rfl rfl (by kernel_rfl) Try.func6 (by kernel_rfl)
    (of_decide_eq_true (by kernel_rfl)) (by unfold Func.isWrapper; first | (rw [if_pos (by decide +kernel)]; kernel_rfl) | (rw [if_neg (by decide +kernel)]; exact ⟨rfl, rfl⟩))
    (fun os started H enc _ => lifted os started H enc)

theorem proved : Rows.TrieNoneSaid :=
  over
end Go.Proofs.Ytpoinhfkgnkedaa.trieNone
