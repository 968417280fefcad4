/-
  trie, plain: an entry less; a row's bytes.
-/
import Derived.Test.YtpoinhfkgnkedaaTrA
namespace Go.Proofs.Ytpoinhfkgnkedaa.M
open Go.RowKit Go.Shelf
set_option linter.unusedVariables false
set_option linter.unusedSectionVars false
set_option linter.unusedSimpArgs false
section
variable {w w2 : World} {P root U Rm K V N : Nat} {nd xs : Path → Option Nat} {pl kb : Nat → Nat} {f : Nat → Bool} {g : Nat → Nat} {rows : List (List Int)}
def minus (xs : Path → Option Nat) (π : Path) : Path → Option Nat := fun ρ => if ρ = π then none else xs ρ
theorem minus_at (xs : Path → Option Nat) (π : Path) : minus xs π π = none := by simp [minus]
theorem minus_ne (xs : Path → Option Nat) {π ρ : Path} (h : ρ ≠ π) : minus xs π ρ = xs ρ := by simp [minus, h]
theorem minus_some {xs : Path → Option Nat} {π ρ : Path} {e : Nat} (h : minus xs π ρ = some e) : ρ ≠ π ∧ xs ρ = some e := by
  by_cases e1 : ρ = π
  · subst e1; rw [minus_at] at h; cases h
  · rw [minus_ne _ e1] at h; exact ⟨e1, h⟩
theorem TrieS.drop (h : TrieS w P root U Rm K V N nd xs pl kb f g rows) {π : Path} {b e : Nat} (hb : nd π = some b) (hx : xs π = some e)
    (k3 : w2.heap[b]? = some (.cells (nodeCells (nd (π ++ [0])) (nd (π ++ [1])) none) 67)) (k4 : UsedW w2 U N (upd f (pl e) false)) (hb2 : But [b, U] w w2) :
    TrieS w2 P root U Rm K V N nd (minus xs π) pl kb (upd f (pl e) false) g rows := by
  obtain ⟨n1, n2, n3, n4, n5⟩ := h.notNode ⟨π, hb⟩
  obtain ⟨C, hC, _⟩ := id h.used
  obtain ⟨D, hD, _⟩ := id h.room
  have hUe : ∀ {ρ e}, xs ρ = some e → e ∉ [b, U] ∧ kb e ∉ [b, U] := fun {ρ e} he => by
    obtain ⟨ks', _, _, _, h4⟩ := h.key ρ e he
    have m1 := (n4 ρ e he).1
    have m2 := (n4 ρ e he).2
    have m3 := ne_type (h.ent ρ e he) hC (by decide)
    have m4 := ne_type h4 hC (by decide)
    simp only [List.mem_cons, List.not_mem_nil, or_false, not_or]
    exact ⟨⟨m1.symm, m3⟩, m2.symm, m4⟩
  exact {
    head := hb2.heap h.head (by simp only [List.mem_cons, List.not_mem_nil, or_false, not_or]; exact ⟨n1.symm, ne_type h.head hC (by decide)⟩)
    tree := by
      refine ⟨h.tree.root, h.tree.closed, h.tree.inj, fun ρ c hc => ?_, fun ρ e he => h.tree.ent ρ e (minus_some he).2⟩
      by_cases e1 : ρ = π
      · subst e1
        rw [hb] at hc
        cases hc
        unfold NodeAt
        rw [minus_at]
        exact k3
      · unfold NodeAt
        rw [minus_ne _ e1]
        have hcell := h.tree.cell ρ c hc
        refine hb2.heap hcell ?_
        simp only [List.mem_cons, List.not_mem_nil, or_false, not_or]
        unfold NodeAt at hcell
        exact ⟨(by rintro rfl; exact e1 (h.tree.inj _ _ _ hc hb)), ne_type hcell hC (by decide)⟩
    rt := h.rt
    ent := fun ρ e he => hb2.heap (h.ent ρ e (minus_some he).2) (hUe (minus_some he).2).1
    key := fun ρ e he => by
      obtain ⟨ks', h1, h2, h3, h4⟩ := h.key ρ e (minus_some he).2
      exact ⟨ks', h1, h2, h3, hb2.heap h4 (hUe (minus_some he).2).2⟩
    used := k4
    room := h.room.but hb2 (by simp only [List.mem_cons, List.not_mem_nil, or_false, not_or]; exact ⟨n3.symm, ne_type hD hC (by decide)⟩)
    rows := ⟨h.rows.1, fun i r hi => by
      obtain ⟨h1, h2⟩ := h.rows.2 i r hi
      have hlt : i < N := by rw [← h.rows.1]; exact (List.getElem?_eq_some_iff.1 hi).1
      exact ⟨hb2.heap h1 (by simp only [List.mem_cons, List.not_mem_nil, or_false, not_or]; exact ⟨(n5 i hlt).symm, ne_type h1 hC (by decide)⟩), h2⟩⟩
    plt := fun ρ e he => h.plt ρ e (minus_some he).2
    pinj := fun ρ σ e e' he he' hpp => h.pinj _ _ _ _ (minus_some he).2 (minus_some he').2 hpp
    full := fun j hj => by
      by_cases ej : j = pl e
      · subst ej
        rw [upd_at]
        constructor
        · intro h; cases h
        · rintro ⟨ρ, e', he', hpe⟩
          obtain ⟨h1, h2⟩ := minus_some he'
          exact absurd (h.pinj _ _ _ _ h2 hx hpe) h1
      · rw [upd_ne _ _ ej, h.full j hj]
        constructor
        · rintro ⟨ρ, e', he', hpe⟩
          refine ⟨ρ, e', ?_, hpe⟩
          rw [minus_ne _ (by rintro rfl; rw [hx] at he'; cases he'; exact ej hpe.symm)]
          exact he'
        · rintro ⟨ρ, e', he', hpe⟩
          exact ⟨ρ, e', (minus_some he').2, hpe⟩
    ginj := h.ginj
    kinj := fun ρ σ e e' he he' hkk => h.kinj _ _ _ _ (minus_some he).2 (minus_some he').2 hkk
    kg := fun ρ e i he hi => h.kg ρ e i (minus_some he).2 hi
    num := h.num }
/-- A row's bytes turn. -/
theorem TrieS.setRow (h : TrieS w P root U Rm K V N nd xs pl kb f g rows) {p : Nat} {r : List Int} (hp : p < N) (hr : r.length = V) (hrb : ByteL r) (k1 : w2.heap[g p]? = some (.cells (u8s r).toArray 5)) (hb2 : But [g p] w w2) :
    TrieS w2 P root U Rm K V N nd xs pl kb f g (rows.set p r) := by
  have hlt : p < rows.length := by rw [h.rows.1]; exact hp
  have hG := (h.rows.2 p _ (List.getElem?_eq_getElem hlt)).1
  obtain ⟨C, hC, _⟩ := id h.used
  obtain ⟨D, hD, _⟩ := id h.room
  exact {
    head := hb2.heap h.head (by simp only [List.mem_singleton]; exact ne_type h.head hG (by decide))
    tree := h.tree.but hb2 (fun π b hp => by
      have hc := h.tree.cell π b hp
      unfold NodeAt at hc
      simp only [List.mem_singleton]; exact ne_type hc hG (by decide))
    rt := h.rt
    ent := fun π e he => hb2.heap (h.ent π e he) (by simp only [List.mem_singleton]; exact ne_type (h.ent π e he) hG (by decide))
    key := fun π e he => by
      obtain ⟨ks, h1, h2, h3, h4⟩ := h.key π e he
      exact ⟨ks, h1, h2, h3, hb2.heap h4 (by simp only [List.mem_singleton]; exact h.kg π e p he hp)⟩
    used := h.used.but hb2 (by simp only [List.mem_singleton]; exact ne_type hC hG (by decide))
    room := h.room.but hb2 (by simp only [List.mem_singleton]; exact ne_type hD hG (by decide))
    rows := ⟨by simp [h.rows.1], fun i r' hi => by
      by_cases ei : i = p
      · subst ei
        rw [List.getElem?_set_self hlt] at hi
        cases hi
        exact ⟨k1, hr, hrb⟩
      · rw [List.getElem?_set_ne (Ne.symm ei)] at hi
        obtain ⟨h1, h2⟩ := h.rows.2 i r' hi
        have hlt' : i < N := by rw [← h.rows.1]; exact (List.getElem?_eq_some_iff.1 hi).1
        exact ⟨hb2.heap h1 (by simp only [List.mem_singleton]; exact fun e => ei (h.ginj _ _ hlt' hp e)), h2⟩⟩
    plt := h.plt
    pinj := h.pinj
    full := h.full
    ginj := h.ginj
    kinj := h.kinj
    kg := h.kg
    num := h.num }
end
end Go.Proofs.Ytpoinhfkgnkedaa.M
