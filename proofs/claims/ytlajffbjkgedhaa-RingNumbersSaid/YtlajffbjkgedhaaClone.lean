/-
  The contract of slices.Clone of bytes: a row of its own, which shows the same.
-/
import Derived.Test.YtlajffbjkgedhaaHeap
import Derived.Test.YtlajffbjkgedhaaProg
namespace Go.Proofs.Ytlajffbjkgedhaa.M
open Go.RowKit
set_option linter.unusedVariables false
set_option linter.unusedSectionVars false
set_option linter.unusedSimpArgs false
theorem clone (s : Value) (xs : List Value) (w : World) (hs : Sees w s xs) (h1 : ∀ u ∈ xs, u.oneCell' = true) (hlen : xs.length ≤ 1000000000000) :
    Calls Try.prog 29 #[s] w fun e w' => ∃ v, e = .returned v ∧ Own w' v xs ∧ (∀ k, v.ownBlock = some k → w.heap.size ≤ k) ∧ But [] w w' := by
  rcases hs with ⟨rfl, rfl⟩ | ⟨ad, c, rfl, hc, hx⟩
  · have hq : ∀ (w : World), (binOp BinOp.eql 36 (.slice none 0 0) (.slice none 0 0)).run Try.prog w = .ok (.bool true) w := fun w => by kernel_rfl
    go_enter Try.func29, Try.ntmps29
    go_wp2
    go_ret
    exact ⟨.slice none 0 0, rfl, World.ownsRow_nil _ _ _ _, fun k hk => (by cases hk), But.refl _ _⟩
  · obtain ⟨i0, hi, hz0, hz1, hz2⟩ := info_parts (show (Try.prog.info? 5).map (fun i => (i.zero, i.size, i.bytes)) = some (some (.int .u8 0), 1, 1) by kernel_rfl)
    have hq : ∀ (w : World), (binOp BinOp.eql 36 (.slice (some ad) xs.length c) (.slice none 0 0)).run Try.prog w = .ok (.bool false) w := fun w => by kernel_rfl
    have hown0 := World.ownsRow_made (base := 0) (e := 5) (size := 1) w #[] 0 (Nat.zero_le _) (Nat.zero_le _) rfl
    go_enter Try.func29, Try.ntmps29
    go_wp2_with (at_builtin; refine wpList_append_own_at _ rfl _ _ 36 rfl 0 5 i0 (.int .u8 0) 1 1 Try.underlying36 hi hz0 hz1 hz2 rfl (by decide) _ 0 [] rfl hown0 ad xs.length c xs rfl (by omega) ?hnews h1 (by unfold maxLen; omega) (by omega) (by omega) ?_; rotate_left; intro v' w1 hown' hgrow hnil hat)
    case hnews =>
      intro j u hj
      exact cell_but ((But.refl [] w).alloc _) (hx j u hj) (by simp)
    have hat2 : v'.ownBlock = some w.heap.size ∨ v'.ownBlock = some (w.heap.size + 1) := by
      rcases hat with h | h
      · exact .inl h
      · right; rw [h, size_alloc]
    have hgrow2 : (w.alloc (Obj.cells #[] 5)).grownBy w1 (some w.heap.size) := hgrow
    have hown2 : Own w1 v' xs := by
      rw [Nat.zero_add] at hown'
      exact hown'
    clear hown' hat hgrow hnil
    go_wp2
    go_ret
    refine ⟨v', rfl, hown2, fun k hk => ?_, (((But.refl [] w).alloc _).grown hgrow2 (fun k hk => .inr (by cases hk; exact Nat.le_refl _)))⟩
    rcases hat2 with h | h <;> (rw [h] at hk; cases hk; omega)
end Go.Proofs.Ytlajffbjkgedhaa.M
