/-
  lru: New of any make, told in two; same; Keys of an empty one.
-/
import Derived.Test.YtifgfnifadmoaaaLruQ
import Derived.Test.YtifgfnifadmoaaaRangeD
namespace Go.Proofs.Ytifgfnifadmoaaa.M
open Go.RowKit Go.Shelf
set_option linter.unusedVariables false
set_option linter.unusedSectionVars false
set_option linter.unusedSimpArgs false
theorem newTwo (k key val ent : Int) (w : World) (hk : (Lit.int .u8 k).wf = true) :
    (∃ E : Int, (E != 0) = true ∧ (E == 0) = false ∧ Calls Try.prog 9 #[.agg #[.int .u8 k, .int .i64 key, .int .i64 val, .int .i64 ent]] w fun e w' => e = .returned (.tuple #[.pointer none, .int .i64 E]) ∧ But [] w w') ∨
    (∃ K V N : Nat, key = K ∧ val = V ∧ ent = N ∧ (1 ≤ K ∧ 1 ≤ V ∧ 1 ≤ N) ∧ Calls Try.prog 9 #[.agg #[.int .u8 k, .int .i64 key, .int .i64 val, .int .i64 ent]] w fun e w' => ∃ P, e = .returned (.tuple #[.pointer (some ⟨P, 0, none⟩), .int .i64 0]) ∧ LB w w' P K V N [] (List.replicate N (List.replicate V 0))) := by
  by_cases h0 : specE k key val ent = 0
  · by_cases h3 : k = 3
    · subst h3
      obtain ⟨hK, hV, hN⟩ := specE_lru h0
      obtain ⟨K, rfl⟩ : ∃ n : Nat, key = n := ⟨key.toNat, by omega⟩
      obtain ⟨V, rfl⟩ : ∃ n : Nat, val = n := ⟨val.toNat, by omega⟩
      obtain ⟨N, rfl⟩ : ∃ n : Nat, ent = n := ⟨ent.toNat, by omega⟩
      exact .inr ⟨K, V, N, rfl, rfl, rfl, by omega, newLB K V N w h0⟩
    · exact .inl ⟨9, rfl, rfl, newKind k key val ent w hk h0 (by simpa using h3)⟩
  · exact .inl ⟨_, by simpa using h0, by simpa using h0, newErr k key val ent _ w hk rfl (by simpa using h0)⟩
theorem sameL (a b : Option Addr) (c d : Nat) (xs ys : List Int) (w : World) (hs : Sees w (.slice a xs.length c) (u8s xs)) (ht : Sees w (.slice b ys.length d) (u8s ys)) (hl : xs.length ≤ 1000000000000) :
    Calls Try.prog 13 #[.slice a xs.length c, .slice b ys.length d] w fun e w' => e = .returned (.bool (decide (xs = ys))) ∧ But [] w w' := by
  have HS := Lib.hid (same _ _ xs ys w hs ht hl)
  clear hs ht hl
  go_enter Try.func13, Try.ntmps13
  go_wp2_with fail
  refine HS.out.mono ?_
  rintro e w1 ⟨rfl, hb⟩
  have HB := Lib.hid hb
  clear hb
  go_wp2_with fail
  go_ret
  exact ⟨rfl, HB.out⟩
end Go.Proofs.Ytifgfnifadmoaaa.M
