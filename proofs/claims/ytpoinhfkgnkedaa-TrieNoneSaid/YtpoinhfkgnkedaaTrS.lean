/-
  trie, plain: a trie as it lies.
-/
import Derived.Test.YtpoinhfkgnkedaaTrAny
import Derived.Test.YtpoinhfkgnkedaaLook
namespace Go.Proofs.Ytpoinhfkgnkedaa.M
open Go.RowKit Go.Shelf
set_option linter.unusedVariables false
set_option linter.unusedSectionVars false
set_option linter.unusedSimpArgs false
structure TrieS (w : World) (P root U Rm K V N : Nat) (nd xs : Path → Option Nat) (pl kb : Nat → Nat) (f : Nat → Bool) (g : Nat → Nat) (rows : List (List Int)) : Prop where
  head : HeadW w P root U Rm 4 K V N
  tree : Tree w nd xs
  rt : nd [] = some root
  ent : ∀ π e, xs π = some e → w.heap[e]? = some (.cells #[.slice (some ⟨kb e, 0, none⟩) K K, .int .i64 (pl e : Nat)] 70)
  key : ∀ π e, xs π = some e → ∃ ks, KeyOk ks ∧ ks.length = K ∧ kbits ks = π ∧ w.heap[kb e]? = some (.cells (u8s (plainK ks)).toArray 5)
  used : UsedW w U N f
  room : RoomW w Rm V N g
  rows : RowsW w V N g rows
  plt : ∀ π e, xs π = some e → pl e < N
  pinj : ∀ π ρ e e', xs π = some e → xs ρ = some e' → pl e = pl e' → π = ρ
  full : ∀ p, p < N → (f p = true ↔ ∃ π e, xs π = some e ∧ pl e = p)
  ginj : ∀ a b, a < N → b < N → g a = g b → a = b
  kinj : ∀ π ρ e e', xs π = some e → xs ρ = some e' → kb e = kb e' → π = ρ
  kg : ∀ π e i, xs π = some e → i < N → kb e ≠ g i
  num : (5 ≤ K ∧ K ≤ 36) ∧ (1 ≤ V ∧ V ≤ 1024) ∧ (1 ≤ N ∧ N ≤ 1024)
/-- A trie's blocks. -/
def Mine (P U Rm N : Nat) (nd xs : Path → Option Nat) (kb g : Nat → Nat) (b : Nat) : Prop := b = P ∨ b = U ∨ b = Rm ∨ (∃ π, nd π = some b) ∨ (∃ π e, xs π = some e ∧ (b = e ∨ b = kb e)) ∨ ∃ i, i < N ∧ b = g i
section
variable {w w' : World} {P root U Rm K V N : Nat} {nd xs : Path → Option Nat} {pl kb : Nat → Nat} {f : Nat → Bool} {g : Nat → Nat} {rows : List (List Int)}
theorem RoomW.but {L : List Nat} (h : RoomW w Rm V N g) (hb : But L w w') (hn : Rm ∉ L) : RoomW w' Rm V N g := by
  obtain ⟨C, h1, h2⟩ := h
  exact ⟨C, hb.heap h1 hn, h2⟩
theorem TrieS.but {L : List Nat} (h : TrieS w P root U Rm K V N nd xs pl kb f g rows) (hb : But L w w') (hL : ∀ x ∈ L, ¬ Mine P U Rm N nd xs kb g x) : TrieS w' P root U Rm K V N nd xs pl kb f g rows where
  head := hb.heap h.head (fun hm => hL _ hm (.inl rfl))
  tree := h.tree.but hb (fun π b hp hm => hL _ hm (.inr (.inr (.inr (.inl ⟨π, hp⟩)))))
  rt := h.rt
  ent π e he := hb.heap (h.ent π e he) (fun hm => hL _ hm (.inr (.inr (.inr (.inr (.inl ⟨π, e, he, .inl rfl⟩))))))
  key π e he := by
    obtain ⟨ks, h1, h2, h3, h4⟩ := h.key π e he
    exact ⟨ks, h1, h2, h3, hb.heap h4 (fun hm => hL _ hm (.inr (.inr (.inr (.inr (.inl ⟨π, e, he, .inr rfl⟩))))))⟩
  used := h.used.but hb (fun hm => hL _ hm (.inr (.inl rfl)))
  room := h.room.but hb (fun hm => hL _ hm (.inr (.inr (.inl rfl))))
  rows := ⟨h.rows.1, fun i r hi => by
    obtain ⟨h1, h2⟩ := h.rows.2 i r hi
    have hlt : i < N := by rw [← h.rows.1]; exact (List.getElem?_eq_some_iff.1 hi).1
    exact ⟨hb.heap h1 (fun hm => hL _ hm (.inr (.inr (.inr (.inr (.inr ⟨i, hlt, rfl⟩)))))), h2⟩⟩
  plt := h.plt
  pinj := h.pinj
  full := h.full
  ginj := h.ginj
  kinj := h.kinj
  kg := h.kg
  num := h.num
theorem TrieS.new (h : TrieS w P root U Rm K V N nd xs pl kb f g rows) (hb : But [] w w') : TrieS w' P root U Rm K V N nd xs pl kb f g rows := h.but hb (by simp)
theorem TrieS.ents (h : TrieS w P root U Rm K V N nd xs pl kb f g rows) : Ents w xs pl := fun π e he => ⟨_, h.ent π e he⟩
/-- The tree of a new trie. -/
def oneN (root : Nat) : Path → Option Nat := fun π => if π = [] then some root else none
theorem NewT.trie {W : World} (h : NewT W w P root U Rm g K V N N) (hn : (5 ≤ K ∧ K ≤ 36) ∧ (1 ≤ V ∧ V ≤ 1024) ∧ (1 ≤ N ∧ N ≤ 1024)) : TrieS w P root U Rm K V N (oneN root) (fun _ => none) (fun _ => 0) (fun _ => 0) (fun _ => false) g (List.replicate N (List.replicate V 0)) where
  head := h.head
  tree := by
    have e (π : Path) (c : Int) : oneN root (π ++ [c]) = none := by simp [oneN]
    refine ⟨⟨root, by simp [oneN]⟩, fun π c b hb => (by rw [e] at hb; cases hb), fun π ρ b h1 h2 => ?_, fun π b hb => ?_, fun π e he => by cases he⟩
    · unfold oneN at h1 h2
      split at h1
      · split at h2
        · rename_i a b; rw [a, b]
        · cases h2
      · cases h1
    · rw [e, e]
      unfold oneN at hb
      split at hb
      · cases hb; exact h.node
      · cases hb
  rt := by simp [oneN]
  ent π e he := by cases he
  key π e he := by cases he
  used := h.used
  room := h.room
  rows := ⟨by simp, fun i r hi => by
    rw [List.getElem?_replicate] at hi
    split at hi
    · rename_i hiN
      cases hi
      exact ⟨(h.row i hiN).1, by simp, fun x hx => by obtain ⟨_, rfl⟩ := List.mem_replicate.1 hx; omega⟩
    · cases hi⟩
  plt π e he := by cases he
  pinj π ρ e e' he := by cases he
  full p hp := ⟨fun h => (by cases h), fun ⟨π, e, he, _⟩ => (by cases he)⟩
  ginj := h.inj
  kinj π ρ e e' he := by cases he
  kg π e i he := by cases he
  num := hn
end
end Go.Proofs.Ytpoinhfkgnkedaa.M
