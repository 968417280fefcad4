/-
  Merged: TrS, TrA, TrD.
-/
import Derived.Test.YtpoinhfkgnkedaaTrAny
import Derived.Test.YtpoinhfkgnkedaaLook
namespace Go.Proofs.Ytpoinhfkgnkedaa.M
open Go.RowKit Go.Shelf
set_option linter.unusedVariables false
set_option linter.unusedSectionVars false
set_option linter.unusedSimpArgs false
structure TrieS (w : World) (P root U Rm K V N : Nat) (nd xs : Path → Option Nat) (pl kb : Nat → Nat) (f : Nat → Bool) (g : Nat → Nat) (rows : List (List Int)) : Prop where
  head : HeadW w P root U Rm 4 K V N
  tree : Tree w nd xs
  rt : nd [] = some root
  ent : ∀ π e, xs π = some e → w.heap[e]? = some (.cells #[.slice (some ⟨kb e, 0, none⟩) K K, .int .i64 (pl e : Nat)] 70)
  key : ∀ π e, xs π = some e → ∃ ks, KeyOk ks ∧ ks.length = K ∧ kbits ks = π ∧ w.heap[kb e]? = some (.cells (u8s (plainK ks)).toArray 5)
  used : UsedW w U N f
  room : RoomW w Rm V N g
  rows : RowsW w V N g rows
  plt : ∀ π e, xs π = some e → pl e < N
  pinj : ∀ π ρ e e', xs π = some e → xs ρ = some e' → pl e = pl e' → π = ρ
  full : ∀ p, p < N → (f p = true ↔ ∃ π e, xs π = some e ∧ pl e = p)
  ginj : ∀ a b, a < N → b < N → g a = g b → a = b
  kinj : ∀ π ρ e e', xs π = some e → xs ρ = some e' → kb e = kb e' → π = ρ
  kg : ∀ π e i, xs π = some e → i < N → kb e ≠ g i
  num : (5 ≤ K ∧ K ≤ 36) ∧ (1 ≤ V ∧ V ≤ 1024) ∧ (1 ≤ N ∧ N ≤ 1024)
/-- A trie's blocks. -/
def Mine (P U Rm N : Nat) (nd xs : Path → Option Nat) (kb g : Nat → Nat) (b : Nat) : Prop := b = P ∨ b = U ∨ b = Rm ∨ (∃ π, nd π = some b) ∨ (∃ π e, xs π = some e ∧ (b = e ∨ b = kb e)) ∨ ∃ i, i < N ∧ b = g i
section
variable {w w' : World} {P root U Rm K V N : Nat} {nd xs : Path → Option Nat} {pl kb : Nat → Nat} {f : Nat → Bool} {g : Nat → Nat} {rows : List (List Int)}
theorem RoomW.but {L : List Nat} (h : RoomW w Rm V N g) (hb : But L w w') (hn : Rm ∉ L) : RoomW w' Rm V N g := by
  obtain ⟨C, h1, h2⟩ := h
  exact ⟨C, hb.heap h1 hn, h2⟩
theorem TrieS.but {L : List Nat} (h : TrieS w P root U Rm K V N nd xs pl kb f g rows) (hb : But L w w') (hL : ∀ x ∈ L, ¬ Mine P U Rm N nd xs kb g x) : TrieS w' P root U Rm K V N nd xs pl kb f g rows where
  head := hb.heap h.head (fun hm => hL _ hm (.inl rfl))
  tree := h.tree.but hb (fun π b hp hm => hL _ hm (.inr (.inr (.inr (.inl ⟨π, hp⟩)))))
  rt := h.rt
  ent π e he := hb.heap (h.ent π e he) (fun hm => hL _ hm (.inr (.inr (.inr (.inr (.inl ⟨π, e, he, .inl rfl⟩))))))
  key π e he := by
    obtain ⟨ks, h1, h2, h3, h4⟩ := h.key π e he
    exact ⟨ks, h1, h2, h3, hb.heap h4 (fun hm => hL _ hm (.inr (.inr (.inr (.inr (.inl ⟨π, e, he, .inr rfl⟩))))))⟩
  used := h.used.but hb (fun hm => hL _ hm (.inr (.inl rfl)))
  room := h.room.but hb (fun hm => hL _ hm (.inr (.inr (.inl rfl))))
  rows := ⟨h.rows.1, fun i r hi => by
    obtain ⟨h1, h2⟩ := h.rows.2 i r hi
    have hlt : i < N := by rw [← h.rows.1]; exact (List.getElem?_eq_some_iff.1 hi).1
    exact ⟨hb.heap h1 (fun hm => hL _ hm (.inr (.inr (.inr (.inr (.inr ⟨i, hlt, rfl⟩)))))), h2⟩⟩
  plt := h.plt
  pinj := h.pinj
  full := h.full
  ginj := h.ginj
  kinj := h.kinj
  kg := h.kg
  num := h.num
theorem TrieS.new (h : TrieS w P root U Rm K V N nd xs pl kb f g rows) (hb : But [] w w') : TrieS w' P root U Rm K V N nd xs pl kb f g rows := h.but hb (by simp)
theorem TrieS.ents (h : TrieS w P root U Rm K V N nd xs pl kb f g rows) : Ents w xs pl := fun π e he => ⟨_, h.ent π e he⟩
/-- The tree of a new trie. -/
def oneN (root : Nat) : Path → Option Nat := fun π => if π = [] then some root else none
theorem NewT.trie {W : World} (h : NewT W w P root U Rm g K V N N) (hn : (5 ≤ K ∧ K ≤ 36) ∧ (1 ≤ V ∧ V ≤ 1024) ∧ (1 ≤ N ∧ N ≤ 1024)) : TrieS w P root U Rm K V N (oneN root) (fun _ => none) (fun _ => 0) (fun _ => 0) (fun _ => false) g (List.replicate N (List.replicate V 0)) where
  head := h.head
  tree := by
    have e (π : Path) (c : Int) : oneN root (π ++ [c]) = none := by simp [oneN]
    refine ⟨⟨root, by simp [oneN]⟩, fun π c b hb => (by rw [e] at hb; cases hb), fun π ρ b h1 h2 => ?_, fun π b hb => ?_, fun π e he => by cases he⟩
    · unfold oneN at h1 h2
      split at h1
      · split at h2
        · rename_i a b; rw [a, b]
        · cases h2
      · cases h1
    · rw [e, e]
      unfold oneN at hb
      split at hb
      · cases hb; exact h.node
      · cases hb
  rt := by simp [oneN]
  ent π e he := by cases he
  key π e he := by cases he
  used := h.used
  room := h.room
  rows := ⟨by simp, fun i r hi => by
    rw [List.getElem?_replicate] at hi
    split at hi
    · rename_i hiN
      cases hi
      exact ⟨(h.row i hiN).1, by simp, fun x hx => by obtain ⟨_, rfl⟩ := List.mem_replicate.1 hx; omega⟩
    · cases hi⟩
  plt π e he := by cases he
  pinj π ρ e e' he := by cases he
  full p hp := ⟨fun h => (by cases h), fun ⟨π, e, he, _⟩ => (by cases he)⟩
  ginj := h.inj
  kinj π ρ e e' he := by cases he
  kg π e i he := by cases he
  num := hn
end
end Go.Proofs.Ytpoinhfkgnkedaa.M
namespace Go.Proofs.Ytpoinhfkgnkedaa.M
open Go.RowKit Go.Shelf
set_option linter.unusedVariables false
set_option linter.unusedSectionVars false
set_option linter.unusedSimpArgs false
section
variable {w w1 : World} {P root U Rm K V N : Nat} {nd xs : Path → Option Nat} {pl kb : Nat → Nat} {f : Nat → Bool} {g : Nat → Nat} {rows : List (List Int)}
/-- A trie's own blocks lie apart from its nodes. -/
theorem TrieS.notNode (h : TrieS w P root U Rm K V N nd xs pl kb f g rows) {x : Nat} (hx : ∃ ρ, nd ρ = some x) : x ≠ P ∧ x ≠ U ∧ x ≠ Rm ∧ (∀ π e, xs π = some e → x ≠ e ∧ x ≠ kb e) ∧ ∀ i, i < N → x ≠ g i := by
  obtain ⟨ρ, hρ⟩ := hx
  have hc := h.tree.cell ρ x hρ
  unfold NodeAt at hc
  obtain ⟨C, hC, _⟩ := h.used
  obtain ⟨D, hD, _⟩ := h.room
  refine ⟨ne_type hc h.head (by decide), ne_type hc hC (by decide), ne_type hc hD (by decide), fun π e he => ⟨ne_type hc (h.ent π e he) (by decide), ?_⟩, fun i hi => ?_⟩
  · obtain ⟨ks, _, _, _, h4⟩ := h.key π e he
    exact ne_type hc h4 (by decide)
  · have hlt : i < rows.length := by rw [h.rows.1]; exact hi
    exact ne_type hc (h.rows.2 i _ (List.getElem?_eq_getElem hlt)).1 (by decide)
/-- Behind the way down: the same, with more nodes. -/
theorem TrieS.grown (h : TrieS w P root U Rm K V N nd xs pl kb f g rows) {π : Path} {nd' : Path → Option Nat} (hG : Grown w nd xs π nd' w1) : TrieS w1 P root U Rm K V N nd' xs pl kb f g rows := by
  obtain ⟨L, hL, hb⟩ := hG.but
  have hn := fun x hx => h.notNode (hL x hx)
  exact {
    head := hb.heap h.head (fun hm => (hn _ hm).1 rfl)
    tree := hG.tree
    rt := hG.old _ _ h.rt
    ent := fun π e he => hb.heap (h.ent π e he) (fun hm => ((hn _ hm).2.2.2.1 π e he).1 rfl)
    key := fun π e he => by
      obtain ⟨ks, h1, h2, h3, h4⟩ := h.key π e he
      exact ⟨ks, h1, h2, h3, hb.heap h4 (fun hm => ((hn _ hm).2.2.2.1 π e he).2 rfl)⟩
    used := h.used.but hb (fun hm => (hn _ hm).2.1 rfl)
    room := h.room.but hb (fun hm => (hn _ hm).2.2.1 rfl)
    rows := ⟨h.rows.1, fun i r hi => by
      obtain ⟨h1, h2⟩ := h.rows.2 i r hi
      have hlt : i < N := by rw [← h.rows.1]; exact (List.getElem?_eq_some_iff.1 hi).1
      exact ⟨hb.heap h1 (fun hm => (hn _ hm).2.2.2.2 i hlt rfl), h2⟩⟩
    plt := h.plt
    pinj := h.pinj
    full := h.full
    ginj := h.ginj
    kinj := h.kinj
    kg := h.kg
    num := h.num }
def upd {α : Type} (f : Nat → α) (a : Nat) (v : α) : Nat → α := fun x => if x = a then v else f x
theorem upd_at {α : Type} (f : Nat → α) (a : Nat) (v : α) : upd f a v a = v := by simp [upd]
theorem upd_ne {α : Type} (f : Nat → α) {a x : Nat} (v : α) (h : x ≠ a) : upd f a v x = f x := by simp [upd, h]
theorem TrieS.elt (h : TrieS w P root U Rm K V N nd xs pl kb f g rows) {ρ : Path} {e : Nat} (he : xs ρ = some e) : e < w.heap.size ∧ kb e < w.heap.size := by
  obtain ⟨ks, _, _, _, h4⟩ := h.key ρ e he
  exact ⟨lt_of (h.ent ρ e he), lt_of h4⟩
/-- An entry is laid at a node that has none. -/
theorem TrieS.put {w2 : World} (h : TrieS w P root U Rm K V N nd xs pl kb f g rows) {π : Path} {b p q e0 : Nat} {ks : List Int} (hb : nd π = some b) (hx : xs π = none) (hp : p < N) (hf : f p = false) (hk : KeyOk ks) (hl : ks.length = K) (hπ : kbits ks = π) (hq : w.heap.size ≤ q) (he0 : w.heap.size ≤ e0)
    (k1 : w2.heap[q]? = some (.cells (u8s (plainK ks)).toArray 5)) (k2 : w2.heap[e0]? = some (.cells #[.slice (some ⟨q, 0, none⟩) K K, .int .i64 (p : Nat)] 70))
    (k3 : w2.heap[b]? = some (.cells (nodeCells (nd (π ++ [0])) (nd (π ++ [1])) (some e0)) 67)) (k4 : UsedW w2 U N (upd f p true)) (hb2 : But [b, U] w w2) :
    TrieS w2 P root U Rm K V N nd (plus xs π e0) (upd pl e0 p) (upd kb e0 q) (upd f p true) g rows := by
  obtain ⟨n1, n2, n3, n4, n5⟩ := h.notNode ⟨π, hb⟩
  obtain ⟨C, hC, _⟩ := id h.used
  obtain ⟨D, hD, _⟩ := id h.room
  have hne : ∀ {ρ e}, xs ρ = some e → e ≠ e0 ∧ ρ ≠ π ∧ kb e ≠ q := fun {ρ e} he => ⟨(by have := (h.elt he).1; omega), (by rintro rfl; rw [hx] at he; cases he), (by have := (h.elt he).2; omega)⟩
  have cases' : ∀ {ρ e}, plus xs π e0 ρ = some e → (ρ = π ∧ e = e0) ∨ (ρ ≠ π ∧ xs ρ = some e) := fun {ρ e} he => by
    by_cases e1 : ρ = π
    · subst e1; rw [plus_at] at he; cases he; exact .inl ⟨rfl, rfl⟩
    · rw [plus_off _ _ e1] at he; exact .inr ⟨e1, he⟩
  have hUe : ∀ {ρ e}, xs ρ = some e → e ∉ [b, U] ∧ kb e ∉ [b, U] := fun {ρ e} he => by
    obtain ⟨ks', _, _, _, h4⟩ := h.key ρ e he
    have m1 := (n4 ρ e he).1
    have m2 := (n4 ρ e he).2
    have m3 := ne_type (h.ent ρ e he) hC (by decide)
    have m4 := ne_type h4 hC (by decide)
    simp only [List.mem_cons, List.not_mem_nil, or_false, not_or]
    exact ⟨⟨m1.symm, m3⟩, m2.symm, m4⟩
  exact {
    head := hb2.heap h.head (by simp only [List.mem_cons, List.not_mem_nil, or_false, not_or]; exact ⟨n1.symm, ne_type h.head hC (by decide)⟩)
    tree := by
      refine ⟨h.tree.root, h.tree.closed, h.tree.inj, fun ρ c hc => ?_, fun ρ e he => ?_⟩
      · by_cases e1 : ρ = π
        · subst e1
          rw [hb] at hc
          cases hc
          unfold NodeAt
          rw [plus_at]
          exact k3
        · unfold NodeAt
          rw [plus_off _ _ e1]
          have hcell := h.tree.cell ρ c hc
          refine hb2.heap hcell ?_
          simp only [List.mem_cons, List.not_mem_nil, or_false, not_or]
          unfold NodeAt at hcell
          exact ⟨by rintro rfl; exact e1 (h.tree.inj _ _ _ hc hb), ne_type hcell hC (by decide)⟩
      · rcases cases' he with ⟨rfl, rfl⟩ | ⟨_, he⟩
        · exact ⟨b, hb⟩
        · exact h.tree.ent ρ e he
    rt := h.rt
    ent := fun ρ e he => by
      rcases cases' he with ⟨rfl, rfl⟩ | ⟨_, he⟩
      · rw [upd_at, upd_at]; exact k2
      · rw [upd_ne _ _ (hne he).1, upd_ne _ _ (hne he).1]; exact hb2.heap (h.ent ρ e he) (hUe he).1
    key := fun ρ e he => by
      rcases cases' he with ⟨rfl, rfl⟩ | ⟨_, he⟩
      · exact ⟨ks, hk, hl, hπ, by rw [upd_at]; exact k1⟩
      · obtain ⟨ks', h1, h2, h3, h4⟩ := h.key ρ e he
        exact ⟨ks', h1, h2, h3, by rw [upd_ne _ _ (hne he).1]; exact hb2.heap h4 (hUe he).2⟩
    used := k4
    room := h.room.but hb2 (by simp only [List.mem_cons, List.not_mem_nil, or_false, not_or]; exact ⟨n3.symm, ne_type hD hC (by decide)⟩)
    rows := ⟨h.rows.1, fun i r hi => by
      obtain ⟨h1, h2⟩ := h.rows.2 i r hi
      have hlt : i < N := by rw [← h.rows.1]; exact (List.getElem?_eq_some_iff.1 hi).1
      exact ⟨hb2.heap h1 (by simp only [List.mem_cons, List.not_mem_nil, or_false, not_or]; exact ⟨(n5 i hlt).symm, ne_type h1 hC (by decide)⟩), h2⟩⟩
    plt := fun ρ e he => by
      rcases cases' he with ⟨rfl, rfl⟩ | ⟨_, he⟩
      · rw [upd_at]; exact hp
      · rw [upd_ne _ _ (hne he).1]; exact h.plt ρ e he
    pinj := fun ρ σ e e' he he' hpp => by
      rcases cases' he with ⟨rfl, rfl⟩ | ⟨_, h5⟩ <;> rcases cases' he' with ⟨rfl, rfl⟩ | ⟨_, h6⟩
      · rfl
      · rw [upd_at, upd_ne _ _ (hne h6).1] at hpp
        have := (h.full p hp).2 ⟨σ, e', h6, hpp.symm⟩
        rw [hf] at this; cases this
      · rw [upd_at, upd_ne _ _ (hne h5).1] at hpp
        have := (h.full p hp).2 ⟨ρ, e, h5, hpp⟩
        rw [hf] at this; cases this
      · rw [upd_ne _ _ (hne h5).1, upd_ne _ _ (hne h6).1] at hpp
        exact h.pinj _ _ _ _ h5 h6 hpp
    full := fun j hj => by
      by_cases ej : j = p
      · subst ej
        rw [upd_at]
        exact ⟨fun _ => ⟨π, e0, plus_at _ _ _, upd_at _ _ _⟩, fun _ => rfl⟩
      · rw [upd_ne _ _ ej, h.full j hj]
        constructor
        · rintro ⟨ρ, e, he, hpe⟩
          exact ⟨ρ, e, by rw [plus_off _ _ (hne he).2.1]; exact he, by rw [upd_ne _ _ (hne he).1]; exact hpe⟩
        · rintro ⟨ρ, e, he, hpe⟩
          rcases cases' he with ⟨rfl, rfl⟩ | ⟨_, he⟩
          · rw [upd_at] at hpe; exact absurd hpe.symm ej
          · rw [upd_ne _ _ (hne he).1] at hpe; exact ⟨ρ, e, he, hpe⟩
    ginj := h.ginj
    kinj := fun ρ σ e e' he he' hkk => by
      rcases cases' he with ⟨rfl, rfl⟩ | ⟨_, h5⟩ <;> rcases cases' he' with ⟨rfl, rfl⟩ | ⟨_, h6⟩
      · rfl
      · rw [upd_at, upd_ne _ _ (hne h6).1] at hkk
        exact absurd hkk.symm (hne h6).2.2
      · rw [upd_at, upd_ne _ _ (hne h5).1] at hkk
        exact absurd hkk (hne h5).2.2
      · rw [upd_ne _ _ (hne h5).1, upd_ne _ _ (hne h6).1] at hkk
        exact h.kinj _ _ _ _ h5 h6 hkk
    kg := fun ρ e i he hi => by
      rcases cases' he with ⟨rfl, rfl⟩ | ⟨_, he⟩
      · rw [upd_at]
        have hlt : i < rows.length := by rw [h.rows.1]; exact hi
        have := lt_of (h.rows.2 i _ (List.getElem?_eq_getElem hlt)).1
        omega
      · rw [upd_ne _ _ (hne he).1]; exact h.kg ρ e i he hi
    num := h.num }
end
end Go.Proofs.Ytpoinhfkgnkedaa.M
namespace Go.Proofs.Ytpoinhfkgnkedaa.M
open Go.RowKit Go.Shelf
set_option linter.unusedVariables false
set_option linter.unusedSectionVars false
set_option linter.unusedSimpArgs false
section
variable {w w2 : World} {P root U Rm K V N : Nat} {nd xs : Path → Option Nat} {pl kb : Nat → Nat} {f : Nat → Bool} {g : Nat → Nat} {rows : List (List Int)}
def minus (xs : Path → Option Nat) (π : Path) : Path → Option Nat := fun ρ => if ρ = π then none else xs ρ
theorem minus_at (xs : Path → Option Nat) (π : Path) : minus xs π π = none := by simp [minus]
theorem minus_ne (xs : Path → Option Nat) {π ρ : Path} (h : ρ ≠ π) : minus xs π ρ = xs ρ := by simp [minus, h]
theorem minus_some {xs : Path → Option Nat} {π ρ : Path} {e : Nat} (h : minus xs π ρ = some e) : ρ ≠ π ∧ xs ρ = some e := by
  by_cases e1 : ρ = π
  · subst e1; rw [minus_at] at h; cases h
  · rw [minus_ne _ e1] at h; exact ⟨e1, h⟩
theorem TrieS.drop (h : TrieS w P root U Rm K V N nd xs pl kb f g rows) {π : Path} {b e : Nat} (hb : nd π = some b) (hx : xs π = some e)
    (k3 : w2.heap[b]? = some (.cells (nodeCells (nd (π ++ [0])) (nd (π ++ [1])) none) 67)) (k4 : UsedW w2 U N (upd f (pl e) false)) (hb2 : But [b, U] w w2) :
    TrieS w2 P root U Rm K V N nd (minus xs π) pl kb (upd f (pl e) false) g rows := by
  obtain ⟨n1, n2, n3, n4, n5⟩ := h.notNode ⟨π, hb⟩
  obtain ⟨C, hC, _⟩ := id h.used
  obtain ⟨D, hD, _⟩ := id h.room
  have hUe : ∀ {ρ e}, xs ρ = some e → e ∉ [b, U] ∧ kb e ∉ [b, U] := fun {ρ e} he => by
    obtain ⟨ks', _, _, _, h4⟩ := h.key ρ e he
    have m1 := (n4 ρ e he).1
    have m2 := (n4 ρ e he).2
    have m3 := ne_type (h.ent ρ e he) hC (by decide)
    have m4 := ne_type h4 hC (by decide)
    simp only [List.mem_cons, List.not_mem_nil, or_false, not_or]
    exact ⟨⟨m1.symm, m3⟩, m2.symm, m4⟩
  exact {
    head := hb2.heap h.head (by simp only [List.mem_cons, List.not_mem_nil, or_false, not_or]; exact ⟨n1.symm, ne_type h.head hC (by decide)⟩)
    tree := by
      refine ⟨h.tree.root, h.tree.closed, h.tree.inj, fun ρ c hc => ?_, fun ρ e he => h.tree.ent ρ e (minus_some he).2⟩
      by_cases e1 : ρ = π
      · subst e1
        rw [hb] at hc
        cases hc
        unfold NodeAt
        rw [minus_at]
        exact k3
      · unfold NodeAt
        rw [minus_ne _ e1]
        have hcell := h.tree.cell ρ c hc
        refine hb2.heap hcell ?_
        simp only [List.mem_cons, List.not_mem_nil, or_false, not_or]
        unfold NodeAt at hcell
        exact ⟨(by rintro rfl; exact e1 (h.tree.inj _ _ _ hc hb)), ne_type hcell hC (by decide)⟩
    rt := h.rt
    ent := fun ρ e he => hb2.heap (h.ent ρ e (minus_some he).2) (hUe (minus_some he).2).1
    key := fun ρ e he => by
      obtain ⟨ks', h1, h2, h3, h4⟩ := h.key ρ e (minus_some he).2
      exact ⟨ks', h1, h2, h3, hb2.heap h4 (hUe (minus_some he).2).2⟩
    used := k4
    room := h.room.but hb2 (by simp only [List.mem_cons, List.not_mem_nil, or_false, not_or]; exact ⟨n3.symm, ne_type hD hC (by decide)⟩)
    rows := ⟨h.rows.1, fun i r hi => by
      obtain ⟨h1, h2⟩ := h.rows.2 i r hi
      have hlt : i < N := by rw [← h.rows.1]; exact (List.getElem?_eq_some_iff.1 hi).1
      exact ⟨hb2.heap h1 (by simp only [List.mem_cons, List.not_mem_nil, or_false, not_or]; exact ⟨(n5 i hlt).symm, ne_type h1 hC (by decide)⟩), h2⟩⟩
    plt := fun ρ e he => h.plt ρ e (minus_some he).2
    pinj := fun ρ σ e e' he he' hpp => h.pinj _ _ _ _ (minus_some he).2 (minus_some he').2 hpp
    full := fun j hj => by
      by_cases ej : j = pl e
      · subst ej
        rw [upd_at]
        constructor
        · intro h; cases h
        · rintro ⟨ρ, e', he', hpe⟩
          obtain ⟨h1, h2⟩ := minus_some he'
          exact absurd (h.pinj _ _ _ _ h2 hx hpe) h1
      · rw [upd_ne _ _ ej, h.full j hj]
        constructor
        · rintro ⟨ρ, e', he', hpe⟩
          refine ⟨ρ, e', ?_, hpe⟩
          rw [minus_ne _ (by rintro rfl; rw [hx] at he'; cases he'; exact ej hpe.symm)]
          exact he'
        · rintro ⟨ρ, e', he', hpe⟩
          exact ⟨ρ, e', (minus_some he').2, hpe⟩
    ginj := h.ginj
    kinj := fun ρ σ e e' he he' hkk => h.kinj _ _ _ _ (minus_some he).2 (minus_some he').2 hkk
    kg := fun ρ e i he hi => h.kg ρ e i (minus_some he).2 hi
    num := h.num }
/-- A row's bytes turn. -/
theorem TrieS.setRow (h : TrieS w P root U Rm K V N nd xs pl kb f g rows) {p : Nat} {r : List Int} (hp : p < N) (hr : r.length = V) (hrb : ByteL r) (k1 : w2.heap[g p]? = some (.cells (u8s r).toArray 5)) (hb2 : But [g p] w w2) :
    TrieS w2 P root U Rm K V N nd xs pl kb f g (rows.set p r) := by
  have hlt : p < rows.length := by rw [h.rows.1]; exact hp
  have hG := (h.rows.2 p _ (List.getElem?_eq_getElem hlt)).1
  obtain ⟨C, hC, _⟩ := id h.used
  obtain ⟨D, hD, _⟩ := id h.room
  exact {
    head := hb2.heap h.head (by simp only [List.mem_singleton]; exact ne_type h.head hG (by decide))
    tree := h.tree.but hb2 (fun π b hp => by
      have hc := h.tree.cell π b hp
      unfold NodeAt at hc
      simp only [List.mem_singleton]; exact ne_type hc hG (by decide))
    rt := h.rt
    ent := fun π e he => hb2.heap (h.ent π e he) (by simp only [List.mem_singleton]; exact ne_type (h.ent π e he) hG (by decide))
    key := fun π e he => by
      obtain ⟨ks, h1, h2, h3, h4⟩ := h.key π e he
      exact ⟨ks, h1, h2, h3, hb2.heap h4 (by simp only [List.mem_singleton]; exact h.kg π e p he hp)⟩
    used := h.used.but hb2 (by simp only [List.mem_singleton]; exact ne_type hC hG (by decide))
    room := h.room.but hb2 (by simp only [List.mem_singleton]; exact ne_type hD hG (by decide))
    rows := ⟨by simp [h.rows.1], fun i r' hi => by
      by_cases ei : i = p
      · subst ei
        rw [List.getElem?_set_self hlt] at hi
        cases hi
        exact ⟨k1, hr, hrb⟩
      · rw [List.getElem?_set_ne (Ne.symm ei)] at hi
        obtain ⟨h1, h2⟩ := h.rows.2 i r' hi
        have hlt' : i < N := by rw [← h.rows.1]; exact (List.getElem?_eq_some_iff.1 hi).1
        exact ⟨hb2.heap h1 (by simp only [List.mem_singleton]; exact fun e => ei (h.ginj _ _ hlt' hp e)), h2⟩⟩
    plt := h.plt
    pinj := h.pinj
    full := h.full
    ginj := h.ginj
    kinj := h.kinj
    kg := h.kg
    num := h.num }
end
end Go.Proofs.Ytpoinhfkgnkedaa.M
