/-
  trie, plain: the tree as it lies: a node at each path.
-/
import Derived.Test.YtpoinhfkgnkedaaBitsK
namespace Go.Proofs.Ytpoinhfkgnkedaa.M
open Go.RowKit Go.Shelf
set_option linter.unusedVariables false
set_option linter.unusedSectionVars false
set_option linter.unusedSimpArgs false
def pv (o : Option Nat) : Value := .pointer (o.map fun b => ⟨b, 0, none⟩)
def NodeAt (w : World) (b : Nat) (l r x : Option Nat) : Prop := w.heap[b]? = some (.cells #[pv l, pv r, pv x] 67)
abbrev Path := List Int
/-- The tree: nd: which block the node at a path is; xs: which block its entry is. -/
structure Tree (w : World) (nd xs : Path → Option Nat) : Prop where
  root : ∃ b, nd [] = some b
  closed : ∀ π c b, nd (π ++ [c]) = some b → (c = 0 ∨ c = 1) ∧ ∃ a, nd π = some a
  inj : ∀ π ρ b, nd π = some b → nd ρ = some b → π = ρ
  cell : ∀ π b, nd π = some b → NodeAt w b (nd (π ++ [0])) (nd (π ++ [1])) (xs π)
  ent : ∀ π e, xs π = some e → ∃ b, nd π = some b
theorem Tree.but {w w' : World} {nd xs : Path → Option Nat} {L : List Nat} (h : Tree w nd xs) (hb : But L w w') (hL : ∀ π b, nd π = some b → b ∉ L) : Tree w' nd xs :=
  ⟨h.root, h.closed, h.inj, fun π b hp => hb.heap (h.cell π b hp) (hL π b hp), h.ent⟩
theorem Tree.lt {w : World} {nd xs : Path → Option Nat} (h : Tree w nd xs) {π : Path} {b : Nat} (hp : nd π = some b) : b < w.heap.size := lt_of (h.cell π b hp)
/-- Along a prefix there are nodes. -/
theorem Tree.up {w : World} {nd xs : Path → Option Nat} (h : Tree w nd xs) : ∀ (σ ρ : Path) (b : Nat), nd (ρ ++ σ) = some b → ∃ a, nd ρ = some a
  | [], ρ, b, hb => ⟨b, by simpa using hb⟩
  | c :: σ, ρ, b, hb => by
    obtain ⟨a, ha⟩ := h.up σ (ρ ++ [c]) b (by simpa using hb)
    exact (h.closed _ _ _ ha).2
theorem Tree.none_down {w : World} {nd xs : Path → Option Nat} (h : Tree w nd xs) {ρ π : Path} (hn : nd ρ = none) (hp : ρ <+: π) : nd π = none := by
  obtain ⟨σ, rfl⟩ := hp
  cases hc : nd (ρ ++ σ) with
  | none => rfl
  | some b => obtain ⟨a, ha⟩ := h.up σ ρ b hc; rw [hn] at ha; cases ha
end Go.Proofs.Ytpoinhfkgnkedaa.M
