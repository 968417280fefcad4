/-
  Plain: what is left as it was, what a slice shows, what it owns. No program.
-/
import Derived.WalkLawsBesides
import Derived.WalkSpells
import Derived.Handy
import Derived.Lib.Hide
import Derived.Maps.OwnSet
import Derived.Maps.AppendAt
import Derived.Laws.OwnMore
import Derived.Laws.MakeOwn
import Derived.Laws.CopyOwn
namespace Go.Proofs.Ytlhegejfaihgmaa.M
open Go.RowKit
set_option linter.unusedVariables false
set_option linter.unusedSectionVars false
set_option linter.unusedSimpArgs false
/-- All old blocks but those of L are as they were. -/
structure But (L : List Nat) (w w' : World) : Prop where
  os : w'.os = w.os
  tape : w'.tape = w.tape
  output : w'.output = w.output
  size : w.heap.size ≤ w'.heap.size
  block : ∀ k, k < w.heap.size → k ∉ L → w'.heap[k]? = w.heap[k]?
theorem But.refl (L : List Nat) (w : World) : But L w w := ⟨rfl, rfl, rfl, Nat.le_refl _, fun _ _ _ => rfl⟩
theorem But.trans {L M : List Nat} {a b c : World} (h : But L a b) (k : But M b c) (hM : ∀ x ∈ M, x ∈ L ∨ a.heap.size ≤ x) : But L a c :=
  ⟨k.os.trans h.os, k.tape.trans h.tape, k.output.trans h.output, Nat.le_trans h.size k.size, fun i hi hn =>
    (k.block i (Nat.lt_of_lt_of_le hi h.size) (fun hm => (hM i hm).elim hn (fun hle => by omega))).trans (h.block i hi hn)⟩
theorem But.mono {L M : List Nat} {a b : World} (h : But L a b) (hM : ∀ x ∈ L, x ∈ M) : But M a b :=
  ⟨h.os, h.tape, h.output, h.size, fun i hi hn => h.block i hi (fun hm => hn (hM i hm))⟩
theorem But.new {L : List Nat} {a b : World} (h : But L a b) (hL : ∀ x ∈ L, a.heap.size ≤ x) : But [] a b :=
  ⟨h.os, h.tape, h.output, h.size, fun i hi hn => h.block i hi (fun hm => by have := hL i hm; omega)⟩
theorem But.drew {L : List Nat} {a b : World} (h : But L a b) : But L a b.drew := ⟨h.os, h.tape, h.output, h.size, h.block⟩
theorem But.alloc {L : List Nat} {a b : World} (h : But L a b) (o : Obj) : But L a (b.alloc o) :=
  ⟨h.os, h.tape, h.output, Nat.le_trans h.size (show b.heap.size ≤ (b.heap.push o).size by simp), fun i hi hn => (Below.heap_alloc b o i (Nat.lt_of_lt_of_le hi h.size)).trans (h.block i hi hn)⟩
theorem But.setCell {L : List Nat} {a b : World} (h : But L a b) {p : Addr} (hp : p.block ∈ L ∨ a.heap.size ≤ p.block) (u : Value) : But L a (b.setCell p u) :=
  ⟨h.os, h.tape, h.output, Nat.le_trans h.size (by simp [World.setCell]), fun i hi hn => (Below.heap_setCell b p u i (fun he => by rcases hp with h1 | h1; exact hn (he ▸ h1); omega)).trans (h.block i hi hn)⟩
theorem But.grown {L : List Nat} {a b c : World} {row : Option Nat} (h : But L a b) (hg : b.grownBy c row) (hr : ∀ k, row = some k → k ∈ L ∨ a.heap.size ≤ k) : But L a c :=
  ⟨hg.os.trans h.os, hg.tape.trans h.tape, hg.output.trans h.output, Nat.le_trans h.size hg.size, fun i hi hn =>
    (hg.block i (Nat.lt_of_lt_of_le hi h.size) (fun he => (hr i he.symm).elim hn (fun hle => by omega))).trans (h.block i hi hn)⟩
theorem But.below {L : List Nat} {a b : World} {B : Nat} (h : But L a b) (hB : B ≤ a.heap.size) (hL : ∀ x ∈ L, B ≤ x) : Below B a b :=
  ⟨h.os, h.tape, h.output, h.size, fun k hk => h.block k (by omega) (fun hm => by have := hL k hm; omega)⟩
theorem But.of_below {a b : World} (h : Below a.heap.size a b) : But [] a b := ⟨h.os, h.tape, h.output, h.size, fun k hk _ => h.block k hk⟩
theorem But.heap {L : List Nat} {a b : World} (h : But L a b) {k : Nat} {o : Obj} (hk : a.heap[k]? = some o) (hn : k ∉ L) : b.heap[k]? = some o := by
  have hlt : k < a.heap.size := (Array.getElem?_eq_some_iff.1 hk).1
  rw [h.block k hlt hn, hk]
theorem lt_of {a : World} {k : Nat} {o : Obj} (hk : a.heap[k]? = some o) : k < a.heap.size := (Array.getElem?_eq_some_iff.1 hk).1

theorem add_at (g o j : Nat) : (⟨g, o, none⟩ : Addr).add j = ⟨g, o + j, none⟩ := by
  by_cases h0 : j = 0
  · subst h0; simp [Addr.add]
  · simp [Addr.add, h0]
theorem cell_but {L : List Nat} {a b : World} (h : But L a b) {p : Addr} {u : Value} (hc : a.cell? p = some u) (hn : p.block ∉ L) : b.cell? p = some u := by
  have hlt : p.block < a.heap.size := by
    apply Classical.byContradiction
    intro hn
    have : a.heap[p.block]? = none := Array.getElem?_eq_none (by omega)
    simp [World.cell?, this] at hc
  rw [World.cell?_of_block (w := a) (h.block _ hlt hn)]
  exact hc
theorem size_alloc (w : World) (o : Obj) : (w.alloc o).heap.size = w.heap.size + 1 := Array.size_push ..
/-- What a slice shows. -/
def Sees (w : World) (s : Value) (xs : List Value) : Prop :=
  (s = .slice none 0 0 ∧ xs = []) ∨ ∃ ad c, s = .slice (some ad) xs.length c ∧ xs.length ≤ c ∧ ∀ j u, xs[j]? = some u → w.cell? (ad.add j) = some u
theorem block_of_add (a : Addr) (n : Nat) : (a.add n).block = a.block := by unfold Addr.add; split <;> rfl
theorem cell_lt {w : World} {a : Addr} {u : Value} (h : w.cell? a = some u) : a.block < w.heap.size := by
  apply Classical.byContradiction
  intro hn
  have : w.heap[a.block]? = none := Array.getElem?_eq_none (by omega)
  simp [World.cell?, this] at h
theorem Sees.but {L : List Nat} {w w' : World} {s : Value} {xs : List Value} (h : Sees w s xs) (hb : But L w w') (hn : ∀ k, s.ownBlock = some k → k ∉ L) : Sees w' s xs := by
  rcases h with h | ⟨ad, c, rfl, hc, hx⟩
  · exact .inl h
  · refine .inr ⟨ad, c, rfl, hc, fun j u hj => ?_⟩
    have h1 := hx j u hj
    rw [World.cell?_of_block (w := w) (hb.block _ (cell_lt h1) (by rw [block_of_add]; exact hn _ rfl))]
    exact h1
/-- What a slice owns: a block of its own, from its first cell on. -/
def Own (w : World) (v : Value) (xs : List Value) : Prop := w.ownsRow 0 5 1 v xs.length xs
theorem Own.sees {w : World} {v : Value} {xs : List Value} (h : Own w v xs) : Sees w v xs := by
  rcases h.2 with ⟨rfl, hn⟩ | ⟨g, cap, cur, rfl, _, hg, hc, hm, hs, ht⟩
  · exact .inl ⟨rfl, List.eq_nil_of_length_eq_zero hn⟩
  · exact .inr ⟨⟨g, 0, none⟩, cap, rfl, hc, fun j u hj => h.cells (g := g) rfl j u hj⟩
theorem Own.but {L : List Nat} {w w' : World} {v : Value} {xs : List Value} (h : Own w v xs) (hb : But L w w') (hn : ∀ k, v.ownBlock = some k → k ∉ L) : Own w' v xs := by
  refine ⟨h.1, ?_⟩
  rcases h.2 with h2 | ⟨g, cap, cur, rfl, h0, hg, rest⟩
  · exact .inl h2
  · exact .inr ⟨g, cap, cur, rfl, h0, hb.heap hg (hn g rfl), rest⟩
theorem Own.lt {w : World} {v : Value} {xs : List Value} (h : Own w v xs) : ∀ k, v.ownBlock = some k → k < w.heap.size := fun k hk => (World.ownsRow.lt h k hk).2
end Go.Proofs.Ytlhegejfaihgmaa.M
