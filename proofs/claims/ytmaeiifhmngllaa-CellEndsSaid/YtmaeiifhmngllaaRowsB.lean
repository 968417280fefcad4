/-
  Rows of one's own, in words of But. No program.
-/
import Derived.Test.YtmaeiifhmngllaaHeap
import Derived.Laws.AppendOwn
import Derived.OwnWalkIn
namespace Go.Proofs.Ytmaeiifhmngllaa.M
open Go.RowKit
set_option linter.unusedVariables false
set_option linter.unusedSectionVars false
set_option linter.unusedSimpArgs false
theorem ownsRow_but {w w' : World} {B : Nat} {e : TypeId} {sz n : Nat} {v : Value} {xs : List Value} {L : List Nat} (h : w.ownsRow B e sz v n xs) (hb : But L w w') (hn : ∀ b, v.ownBlock = some b → b ∉ L) : w'.ownsRow B e sz v n xs := by
  obtain ⟨h1, h2⟩ := h
  refine ⟨h1, ?_⟩
  rcases h2 with h2 | ⟨g, cap, cur, h3, h4, h5, h6⟩
  · exact .inl h2
  · exact .inr ⟨g, cap, cur, h3, h4, hb.heap h5 (hn g (by rw [h3]; rfl)), h6⟩
theorem ownsRow_tag {w : World} {B : Nat} {e : TypeId} {sz n : Nat} {v : Value} {xs : List Value} (h : w.ownsRow B e sz v n xs) {b : Nat} (hb : v.ownBlock = some b) : B ≤ b ∧ ∃ cur, w.heap[b]? = some (.cells cur e) := by
  rcases h.2 with ⟨h3, _⟩ | ⟨g, cap, cur, h3, h4, h5, h6⟩
  · rw [h3] at hb; cases hb
  · rw [h3] at hb; cases hb; exact ⟨h4, cur, h5⟩
theorem row_form {w : World} {B : Nat} {e : TypeId} {sz n : Nat} {v : Value} {xs : List Value} (h : w.ownsRow B e sz v n xs) : ∃ a c, v = .slice a n c := by
  rcases h.2 with ⟨h, h0⟩ | ⟨g, cap, cur, h, _⟩
  · exact ⟨none, 0, by rw [h, h0]⟩
  · exact ⟨_, _, h⟩
end Go.Proofs.Ytmaeiifhmngllaa.M
