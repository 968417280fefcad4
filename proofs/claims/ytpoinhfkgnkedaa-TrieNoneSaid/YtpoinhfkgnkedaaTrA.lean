/-
  trie, plain: an entry more.
-/
import Derived.Test.YtpoinhfkgnkedaaTrS
namespace Go.Proofs.Ytpoinhfkgnkedaa.M
open Go.RowKit Go.Shelf
set_option linter.unusedVariables false
set_option linter.unusedSectionVars false
set_option linter.unusedSimpArgs false
section
variable {w w1 : World} {P root U Rm K V N : Nat} {nd xs : Path → Option Nat} {pl kb : Nat → Nat} {f : Nat → Bool} {g : Nat → Nat} {rows : List (List Int)}
/-- A trie's own blocks lie apart from its nodes. -/
theorem TrieS.notNode (h : TrieS w P root U Rm K V N nd xs pl kb f g rows) {x : Nat} (hx : ∃ ρ, nd ρ = some x) : x ≠ P ∧ x ≠ U ∧ x ≠ Rm ∧ (∀ π e, xs π = some e → x ≠ e ∧ x ≠ kb e) ∧ ∀ i, i < N → x ≠ g i := by
  obtain ⟨ρ, hρ⟩ := hx
  have hc := h.tree.cell ρ x hρ
  unfold NodeAt at hc
  obtain ⟨C, hC, _⟩ := h.used
  obtain ⟨D, hD, _⟩ := h.room
  refine ⟨ne_type hc h.head (by decide), ne_type hc hC (by decide), ne_type hc hD (by decide), fun π e he => ⟨ne_type hc (h.ent π e he) (by decide), ?_⟩, fun i hi => ?_⟩
  · obtain ⟨ks, _, _, _, h4⟩ := h.key π e he
    exact ne_type hc h4 (by decide)
  · have hlt : i < rows.length := by rw [h.rows.1]; exact hi
    exact ne_type hc (h.rows.2 i _ (List.getElem?_eq_getElem hlt)).1 (by decide)
/-- Behind the way down: the same, with more nodes. -/
theorem TrieS.grown (h : TrieS w P root U Rm K V N nd xs pl kb f g rows) {π : Path} {nd' : Path → Option Nat} (hG : Grown w nd xs π nd' w1) : TrieS w1 P root U Rm K V N nd' xs pl kb f g rows := by
  obtain ⟨L, hL, hb⟩ := hG.but
  have hn := fun x hx => h.notNode (hL x hx)
  exact {
    head := hb.heap h.head (fun hm => (hn _ hm).1 rfl)
    tree := hG.tree
    rt := hG.old _ _ h.rt
    ent := fun π e he => hb.heap (h.ent π e he) (fun hm => ((hn _ hm).2.2.2.1 π e he).1 rfl)
    key := fun π e he => by
      obtain ⟨ks, h1, h2, h3, h4⟩ := h.key π e he
      exact ⟨ks, h1, h2, h3, hb.heap h4 (fun hm => ((hn _ hm).2.2.2.1 π e he).2 rfl)⟩
    used := h.used.but hb (fun hm => (hn _ hm).2.1 rfl)
    room := h.room.but hb (fun hm => (hn _ hm).2.2.1 rfl)
    rows := ⟨h.rows.1, fun i r hi => by
      obtain ⟨h1, h2⟩ := h.rows.2 i r hi
      have hlt : i < N := by rw [← h.rows.1]; exact (List.getElem?_eq_some_iff.1 hi).1
      exact ⟨hb.heap h1 (fun hm => (hn _ hm).2.2.2.2 i hlt rfl), h2⟩⟩
    plt := h.plt
    pinj := h.pinj
    full := h.full
    ginj := h.ginj
    kinj := h.kinj
    kg := h.kg
    num := h.num }
def upd {α : Type} (f : Nat → α) (a : Nat) (v : α) : Nat → α := fun x => if x = a then v else f x
theorem upd_at {α : Type} (f : Nat → α) (a : Nat) (v : α) : upd f a v a = v := by simp [upd]
theorem upd_ne {α : Type} (f : Nat → α) {a x : Nat} (v : α) (h : x ≠ a) : upd f a v x = f x := by simp [upd, h]
theorem TrieS.elt (h : TrieS w P root U Rm K V N nd xs pl kb f g rows) {ρ : Path} {e : Nat} (he : xs ρ = some e) : e < w.heap.size ∧ kb e < w.heap.size := by
  obtain ⟨ks, _, _, _, h4⟩ := h.key ρ e he
  exact ⟨lt_of (h.ent ρ e he), lt_of h4⟩
/-- An entry is laid at a node that has none. -/
theorem TrieS.put {w2 : World} (h : TrieS w P root U Rm K V N nd xs pl kb f g rows) {π : Path} {b p q e0 : Nat} {ks : List Int} (hb : nd π = some b) (hx : xs π = none) (hp : p < N) (hf : f p = false) (hk : KeyOk ks) (hl : ks.length = K) (hπ : kbits ks = π) (hq : w.heap.size ≤ q) (he0 : w.heap.size ≤ e0)
    (k1 : w2.heap[q]? = some (.cells (u8s (plainK ks)).toArray 5)) (k2 : w2.heap[e0]? = some (.cells #[.slice (some ⟨q, 0, none⟩) K K, .int .i64 (p : Nat)] 70))
    (k3 : w2.heap[b]? = some (.cells (nodeCells (nd (π ++ [0])) (nd (π ++ [1])) (some e0)) 67)) (k4 : UsedW w2 U N (upd f p true)) (hb2 : But [b, U] w w2) :
    TrieS w2 P root U Rm K V N nd (plus xs π e0) (upd pl e0 p) (upd kb e0 q) (upd f p true) g rows := by
  obtain ⟨n1, n2, n3, n4, n5⟩ := h.notNode ⟨π, hb⟩
  obtain ⟨C, hC, _⟩ := id h.used
  obtain ⟨D, hD, _⟩ := id h.room
  have hne : ∀ {ρ e}, xs ρ = some e → e ≠ e0 ∧ ρ ≠ π ∧ kb e ≠ q := fun {ρ e} he => ⟨(by have := (h.elt he).1; omega), (by rintro rfl; rw [hx] at he; cases he), (by have := (h.elt he).2; omega)⟩
  have cases' : ∀ {ρ e}, plus xs π e0 ρ = some e → (ρ = π ∧ e = e0) ∨ (ρ ≠ π ∧ xs ρ = some e) := fun {ρ e} he => by
    by_cases e1 : ρ = π
    · subst e1; rw [plus_at] at he; cases he; exact .inl ⟨rfl, rfl⟩
    · rw [plus_off _ _ e1] at he; exact .inr ⟨e1, he⟩
  have hUe : ∀ {ρ e}, xs ρ = some e → e ∉ [b, U] ∧ kb e ∉ [b, U] := fun {ρ e} he => by
    obtain ⟨ks', _, _, _, h4⟩ := h.key ρ e he
    have m1 := (n4 ρ e he).1
    have m2 := (n4 ρ e he).2
    have m3 := ne_type (h.ent ρ e he) hC (by decide)
    have m4 := ne_type h4 hC (by decide)
    simp only [List.mem_cons, List.not_mem_nil, or_false, not_or]
    exact ⟨⟨m1.symm, m3⟩, m2.symm, m4⟩
  exact {
    head := hb2.heap h.head (by simp only [List.mem_cons, List.not_mem_nil, or_false, not_or]; exact ⟨n1.symm, ne_type h.head hC (by decide)⟩)
    tree := by
      refine ⟨h.tree.root, h.tree.closed, h.tree.inj, fun ρ c hc => ?_, fun ρ e he => ?_⟩
      · by_cases e1 : ρ = π
        · subst e1
          rw [hb] at hc
          cases hc
          unfold NodeAt
          rw [plus_at]
          exact k3
        · unfold NodeAt
          rw [plus_off _ _ e1]
          have hcell := h.tree.cell ρ c hc
          refine hb2.heap hcell ?_
          simp only [List.mem_cons, List.not_mem_nil, or_false, not_or]
          unfold NodeAt at hcell
          exact ⟨by rintro rfl; exact e1 (h.tree.inj _ _ _ hc hb), ne_type hcell hC (by decide)⟩
      · rcases cases' he with ⟨rfl, rfl⟩ | ⟨_, he⟩
        · exact ⟨b, hb⟩
        · exact h.tree.ent ρ e he
    rt := h.rt
    ent := fun ρ e he => by
      rcases cases' he with ⟨rfl, rfl⟩ | ⟨_, he⟩
      · rw [upd_at, upd_at]; exact k2
      · rw [upd_ne _ _ (hne he).1, upd_ne _ _ (hne he).1]; exact hb2.heap (h.ent ρ e he) (hUe he).1
    key := fun ρ e he => by
      rcases cases' he with ⟨rfl, rfl⟩ | ⟨_, he⟩
      · exact ⟨ks, hk, hl, hπ, by rw [upd_at]; exact k1⟩
      · obtain ⟨ks', h1, h2, h3, h4⟩ := h.key ρ e he
        exact ⟨ks', h1, h2, h3, by rw [upd_ne _ _ (hne he).1]; exact hb2.heap h4 (hUe he).2⟩
    used := k4
    room := h.room.but hb2 (by simp only [List.mem_cons, List.not_mem_nil, or_false, not_or]; exact ⟨n3.symm, ne_type hD hC (by decide)⟩)
    rows := ⟨h.rows.1, fun i r hi => by
      obtain ⟨h1, h2⟩ := h.rows.2 i r hi
      have hlt : i < N := by rw [← h.rows.1]; exact (List.getElem?_eq_some_iff.1 hi).1
      exact ⟨hb2.heap h1 (by simp only [List.mem_cons, List.not_mem_nil, or_false, not_or]; exact ⟨(n5 i hlt).symm, ne_type h1 hC (by decide)⟩), h2⟩⟩
    plt := fun ρ e he => by
      rcases cases' he with ⟨rfl, rfl⟩ | ⟨_, he⟩
      · rw [upd_at]; exact hp
      · rw [upd_ne _ _ (hne he).1]; exact h.plt ρ e he
    pinj := fun ρ σ e e' he he' hpp => by
      rcases cases' he with ⟨rfl, rfl⟩ | ⟨_, h5⟩ <;> rcases cases' he' with ⟨rfl, rfl⟩ | ⟨_, h6⟩
      · rfl
      · rw [upd_at, upd_ne _ _ (hne h6).1] at hpp
        have := (h.full p hp).2 ⟨σ, e', h6, hpp.symm⟩
        rw [hf] at this; cases this
      · rw [upd_at, upd_ne _ _ (hne h5).1] at hpp
        have := (h.full p hp).2 ⟨ρ, e, h5, hpp⟩
        rw [hf] at this; cases this
      · rw [upd_ne _ _ (hne h5).1, upd_ne _ _ (hne h6).1] at hpp
        exact h.pinj _ _ _ _ h5 h6 hpp
    full := fun j hj => by
      by_cases ej : j = p
      · subst ej
        rw [upd_at]
        exact ⟨fun _ => ⟨π, e0, plus_at _ _ _, upd_at _ _ _⟩, fun _ => rfl⟩
      · rw [upd_ne _ _ ej, h.full j hj]
        constructor
        · rintro ⟨ρ, e, he, hpe⟩
          exact ⟨ρ, e, by rw [plus_off _ _ (hne he).2.1]; exact he, by rw [upd_ne _ _ (hne he).1]; exact hpe⟩
        · rintro ⟨ρ, e, he, hpe⟩
          rcases cases' he with ⟨rfl, rfl⟩ | ⟨_, he⟩
          · rw [upd_at] at hpe; exact absurd hpe.symm ej
          · rw [upd_ne _ _ (hne he).1] at hpe; exact ⟨ρ, e, he, hpe⟩
    ginj := h.ginj
    kinj := fun ρ σ e e' he he' hkk => by
      rcases cases' he with ⟨rfl, rfl⟩ | ⟨_, h5⟩ <;> rcases cases' he' with ⟨rfl, rfl⟩ | ⟨_, h6⟩
      · rfl
      · rw [upd_at, upd_ne _ _ (hne h6).1] at hkk
        exact absurd hkk.symm (hne h6).2.2
      · rw [upd_at, upd_ne _ _ (hne h5).1] at hkk
        exact absurd hkk (hne h5).2.2
      · rw [upd_ne _ _ (hne h5).1, upd_ne _ _ (hne h6).1] at hkk
        exact h.kinj _ _ _ _ h5 h6 hkk
    kg := fun ρ e i he hi => by
      rcases cases' he with ⟨rfl, rfl⟩ | ⟨_, he⟩
      · rw [upd_at]
        have hlt : i < rows.length := by rw [h.rows.1]; exact hi
        have := lt_of (h.rows.2 i _ (List.getElem?_eq_getElem hlt)).1
        omega
      · rw [upd_ne _ _ (hne he).1]; exact h.kg ρ e i he hi
    num := h.num }
end
end Go.Proofs.Ytpoinhfkgnkedaa.M
