/-
  trie: New of any make, and the reference's: the errors.
-/
import Derived.Test.YtpoinhfkgnkedaaTrRef
namespace Go.Proofs.Ytpoinhfkgnkedaa.M
open Go.RowKit Go.Shelf
set_option linter.unusedVariables false
set_option linter.unusedSectionVars false
set_option linter.unusedSimpArgs false
def newE (k key val ent : Int) : Int := if specE k key val ent ≠ 0 then specE k key val ent else if k = 4 then 0 else 9
theorem newAny (k key val ent : Int) (w : World) (hk : (Lit.int .u8 k).wf = true) :
    Calls Try.prog 9 #[.agg #[.int .u8 k, .int .i64 key, .int .i64 val, .int .i64 ent]] w fun e w' => ∃ p, e = .returned (.tuple #[p, .int .i64 (newE k key val ent)]) ∧ But [] w w' := by
  by_cases h0 : specE k key val ent = 0
  · by_cases h3 : k = 4
    · subst h3
      have e1 : newE 4 key val ent = 0 := by unfold newE; rw [if_neg (by simp [h0]), if_pos rfl]
      rw [e1]
      obtain ⟨hK, hV, hN⟩ := specE_trie h0
      obtain ⟨K, rfl⟩ : ∃ n : Nat, key = n := ⟨key.toNat, by omega⟩
      obtain ⟨V, rfl⟩ : ∃ n : Nat, val = n := ⟨val.toNat, by omega⟩
      obtain ⟨N, rfl⟩ : ∃ n : Nat, ent = n := ⟨ent.toNat, by omega⟩
      refine (newTrie K V N w h0).mono ?_
      rintro e w' ⟨P, M, U, Rm, g, rfl, _, h2⟩
      exact ⟨_, rfl, h2⟩
    · have e1 : newE k key val ent = 9 := by unfold newE; rw [if_neg (by simp [h0]), if_neg h3]
      rw [e1]
      refine (newKind k key val ent w hk h0 (by simpa using h3)).mono ?_
      rintro e w' ⟨rfl, h2⟩
      exact ⟨_, rfl, h2⟩
  · have e1 : newE k key val ent = specE k key val ent := by unfold newE; rw [if_pos h0]
    rw [e1]
    refine (newErr k key val ent _ w hk rfl (by simpa using h0)).mono ?_
    rintro e w' ⟨rfl, h2⟩
    exact ⟨_, rfl, h2⟩
theorem refNewAny (k key val ent : Int) (w : World) :
    Calls Try.prog 20 #[.agg #[.int .u8 k, .int .i64 key, .int .i64 val, .int .i64 ent]] w fun e w' => ∃ p, e = .returned (.tuple #[p, .int .i64 (newE k key val ent)]) ∧ But [] w w' := by
  by_cases h0 : specE k key val ent = 0
  · by_cases h3 : k = 4
    · subst h3
      have e1 : newE 4 key val ent = 0 := by unfold newE; rw [if_neg (by simp [h0]), if_pos rfl]
      rw [e1]
      obtain ⟨hK, hV, hN⟩ := specE_trie h0
      obtain ⟨K, rfl⟩ : ∃ n : Nat, key = n := ⟨key.toNat, by omega⟩
      obtain ⟨V, rfl⟩ : ∃ n : Nat, val = n := ⟨val.toNat, by omega⟩
      obtain ⟨N, rfl⟩ : ∃ n : Nat, ent = n := ⟨ent.toNat, by omega⟩
      refine (refNewL K V N w h0).mono ?_
      rintro e w' ⟨X, a, c, vals, rfl, h2, _⟩
      exact ⟨_, rfl, h2.but⟩
    · have e1 : newE k key val ent = 9 := by unfold newE; rw [if_neg (by simp [h0]), if_neg h3]
      rw [e1]
      refine (refNewKind k key val ent w h0 (by simpa using h3)).mono ?_
      rintro e w' ⟨rfl, h2⟩
      exact ⟨_, rfl, h2⟩
  · have e1 : newE k key val ent = specE k key val ent := by unfold newE; rw [if_pos h0]
    rw [e1]
    refine (refNewErr k key val ent _ w rfl (by simpa using h0)).mono ?_
    rintro e w' ⟨rfl, h2⟩
    exact ⟨_, rfl, h2⟩
end Go.Proofs.Ytpoinhfkgnkedaa.M
