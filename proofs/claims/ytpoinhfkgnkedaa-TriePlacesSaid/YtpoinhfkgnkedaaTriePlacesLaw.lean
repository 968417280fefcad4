/-
  'TriePlaces' of hatchwaylaw13: of any arguments it tells true, and each argument reads as it did. No condition.
-/
import Derived.Test.YtpoinhfkgnkedaaRows
import Derived.WalkKit
import Derived.ProofKit
import Derived.OpenShut
import Derived.Below
import Derived.Test.YtpoinhfkgnkedaaOpen
import Derived.Test.YtpoinhfkgnkedaaTriePlaces
namespace Go.Proofs.Ytpoinhfkgnkedaa.triePlaces
open Go.ChangeShapes Go.WideShapes Go.ChangeAt Go.RowKit
set_option linter.unusedVariables false

theorem own : ownKnob Try.prog.godebug = none := by kernel_rfl

set_option maxRecDepth 100000 in
theorem lifted (os : Os) (started : os.Started) (H : Type) (enc : TypeId × Value → H) :
    ReturnsInHanded {} Try.checked os 4 .any (Rows.triePlacesSpec.pre6 enc Try.prog Try.f4 Rows.triePlacesRow.domain false) (Rows.triePlacesSpec.post enc Try.prog Try.f4 false true false false) := by
  refine returnsInHanded_of_change_sized (C := Try.checked) own started (by kernel_rfl) Try.func4
    (ChangeSpec.witness6 (enc := enc) (C := Try.checked) false ⟨#[], #[.agg #[.int .u8 0, .int .i64 0, .int .i64 0, .int .i64 0], .slice none 0 0, .slice none 0 0, .slice none 0 0, .int .u8 0], []⟩ 8 (by kernel_rfl) (by kernel_rfl) (by kernel_rfl) (by kernel_rfl)) ?_
  intro W base args ds gs before hval0 hW hcnd hsz0 _
  have hval : ∀ (j : Nat) t v, Try.f4.params[j]? = some t → args[j]? = some v → Value.okWide Try.prog W .any base t v := hval0
  have hW' := hW
  obtain ⟨p, q, hA0, hV, rfl, hfz, hnd⟩ := hW
  have hA : DataW.TrodAll enc Try.prog W 0 (fun _ => true) true Try.f4.params.toList args.toList ds p := hA0
  have hsz : (DataW.weightsEach Try.prog (Try.f4.params.toList ++ Rows.triePlacesSpec.plain.varTypes Try.prog) (ds ++ gs)).all (· ≤ reachBytes) = true := hsz0
  rw [Try.params4] at hA hval hsz
  have hAk := hA
  obtain ⟨v0, vs0, d0, ds0, p0, q0, hargs, rfl, hp0, h0, r0⟩ := trodAll_cons hA
  obtain ⟨v1, vs1, d1, ds1, p1, q1, rfl, rfl, hp1, h1, r1⟩ := trodAll_cons r0
  obtain ⟨v2, vs2, d2, ds2, p2, q2, rfl, rfl, hp2, h2, r2⟩ := trodAll_cons r1
  obtain ⟨v3, vs3, d3, ds3, p3, q3, rfl, rfl, hp3, h3, r3⟩ := trodAll_cons r2
  obtain ⟨v4, vs4, d4, ds4, p4, q4, rfl, rfl, hp4, h4, r4⟩ := trodAll_cons r3
  obtain ⟨rfl, rfl, rfl⟩ := trodAll_nil r4
  obtain rfl : args = #[v0, v1, v2, v3, v4] := by cases args; simp_all
  obtain ⟨rfl, rfl⟩ := trodVars_none hV
  have hS := fun (j : Nat) (t : TypeId) (d : DataW H) (ht : [24, 26, 26, 25, 5][j]? = some t) (hd : [d0, d1, d2, d3, d4][j]? = some d) => M.sized_at (H := H) hsz j t d ((List.getElem?_append_left (List.getElem?_eq_some_iff.1 ht).1).trans ht) (by simpa using hd)
  obtain ⟨x0, e0, s0⟩ := M.spec_in (hval 0 24 v0 rfl rfl) h0 (hS 0 24 d0 rfl rfl)
  subst e0
  obtain ⟨l1, s1, n1⟩ := M.bytes8_in (hval 1 26 v1 rfl rfl) h1 (hS 1 26 d1 rfl rfl)
  obtain ⟨l2, s2, n2⟩ := M.bytes8_in (hval 2 26 v2 rfl rfl) h2 (hS 2 26 d2 rfl rfl)
  obtain ⟨l3, s3, n3⟩ := M.deeds_in (hval 3 25 v3 rfl rfl) h3 (hS 3 25 d3 rfl rfl)
  have ho4 := open_int Try.underlying5 (hval 4 5 v4 rfl rfl) h4
  obtain ⟨a4, hv4, _, _, w4⟩ := ho4
  subst hv4
  clear hA0 hval0 hsz0
  simp only [List.append_nil] at hW'
  refine (M.triePlaces_walk W x0 v1 l1 v2 l2 v3 l3 a4 s0 s1 n1 s2 n2 s3 n3 w4).mono fun e W' ⟨he, hg⟩ => ?_
  subst he
  exact ⟨_, rfl, _, _, _, [], _, [], hW', (trodAll_cons_mk (shut_bool Try.underlying4 _) trodAll_mk0), M.args_again (by kernel_rfl) (by kernel_rfl) (by kernel_rfl) (by decide +kernel) hAk hg, rfl, hg.frame _, fun h => by cases h⟩

theorem over : Rows.triePlacesRow.holds Try.pinned (OpenSpec.ofChange Rows.triePlacesSpec) :=
  OpenClaim.holds_of_wide 4 Try.f4 rfl rfl rfl rfl rfl rfl rfl ⟨rfl, rfl, rfl, rfl, rfl⟩ rfl rfl rfl rfl rfl (by kernel_rfl) Try.func4 (by kernel_rfl)
    (of_decide_eq_true (by kernel_rfl)) (by unfold Func.isWrapper; first | (rw [if_pos (by decide +kernel)]; kernel_rfl) | (rw [if_neg (by decide +kernel)]; exact ⟨rfl, rfl⟩))
    (fun os started H enc _ => lifted os started H enc)

theorem proved : Rows.TriePlacesSaid :=
  over
end Go.Proofs.Ytpoinhfkgnkedaa.triePlaces
