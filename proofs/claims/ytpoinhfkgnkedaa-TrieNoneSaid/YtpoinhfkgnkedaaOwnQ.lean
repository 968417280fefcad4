/-
  Plain: more of rows of one's own.
-/
import Derived.Test.YtpoinhfkgnkedaaRow
namespace Go.Proofs.Ytpoinhfkgnkedaa.M
open Go.RowKit
set_option linter.unusedVariables false
set_option linter.unusedSectionVars false
set_option linter.unusedSimpArgs false
theorem OwnQ.lt {w : World} {e : TypeId} {v : Value} {xs : List Value} (h : OwnQ w e v xs) {b : Nat} (hb : v.ownBlock = some b) : b < w.heap.size := by
  obtain ⟨cur, hg⟩ := h.tag b hb
  exact lt_of hg
theorem OwnQ.ne {w : World} {e e' : TypeId} {v v' : Value} {xs ys : List Value} (h : OwnQ w e v xs) (h' : OwnQ w e' v' ys) (he : e ≠ e') {b : Nat} (hb : v.ownBlock = some b) (hb' : v'.ownBlock = some b) : False := by
  obtain ⟨cur, hg⟩ := h.tag b hb
  obtain ⟨cur', hg'⟩ := h'.tag b hb'
  rw [hg] at hg'
  simp only [Option.some.injEq, Obj.cells.injEq] at hg'
  exact he hg'.2.1
theorem OwnQ.cellAt {w : World} {e : TypeId} {g o n cap : Nat} {xs : List Value} (h : OwnQ w e (.slice (some ⟨g, o, none⟩) n cap) xs) {k : Nat} {u : Value} (hk : xs[k]? = some u) : w.cell? ⟨g, o + k, none⟩ = some u := by
  rcases h with ⟨h, _⟩ | ⟨g', o', cap', cur, he, hg, hc, hm, hs, hx⟩
  · cases h
  · simp only [Value.slice.injEq, Option.some.injEq, Addr.mk.injEq, and_true] at he
    obtain ⟨⟨rfl, rfl⟩, _, rfl⟩ := he
    unfold World.cell?
    rw [hg]
    exact hx k u hk
theorem OwnQ.frozenAt {w : World} {e : TypeId} {g o n cap : Nat} {xs : List Value} (h : OwnQ w e (.slice (some ⟨g, o, none⟩) n cap) xs) (j : Nat) : w.frozen? ⟨g, j, none⟩ = false := by
  rcases h with ⟨h, _⟩ | ⟨g', o', cap', cur, he, hg, hc, hm, hs, hx⟩
  · cases h
  · simp only [Value.slice.injEq, Option.some.injEq, Addr.mk.injEq, and_true] at he
    obtain ⟨⟨rfl, rfl⟩, _, rfl⟩ := he
    unfold World.frozen?
    rw [hg]
    simp
theorem OwnQ.set {w : World} {e : TypeId} {g o n cap : Nat} {xs : List Value} (h : OwnQ w e (.slice (some ⟨g, o, none⟩) n cap) xs) (i : Nat) (hi : i < xs.length) (u : Value) : OwnQ (w.setCell ⟨g, o + i, none⟩ u) e (.slice (some ⟨g, o, none⟩) n cap) (xs.set i u) := by
  rcases h with ⟨h, _⟩ | ⟨g', o', cap', cur, he, hg, hc, hm, hs, hx⟩
  · cases h
  · simp only [Value.slice.injEq, Option.some.injEq, Addr.mk.injEq, and_true] at he
    obtain ⟨⟨rfl, rfl⟩, rfl, rfl⟩ := he
    refine .inr ⟨g, o, cap, cur.setIfInBounds (o + i) u, by simp, by simp [World.setCell, Array.getElem?_modify, hg], by simpa using hc, hm, by simpa using hs, fun j v hj => ?_⟩
    rw [Array.getElem?_setIfInBounds]
    by_cases hji : i = j
    · subst hji
      rw [if_pos rfl, if_pos (by omega)]
      rw [List.getElem?_set_self hi] at hj
      exact hj
    · rw [if_neg (by omega)]
      rw [List.getElem?_set_ne hji] at hj
      exact hx j v hj
theorem OwnQ.pre {w : World} {e : TypeId} {a : Option Addr} {n p cap : Nat} {xs : List Value} (h : OwnQ w e (.slice a n cap) xs) (hp : p ≤ xs.length) : OwnQ w e (.slice a p cap) (xs.take p) := by
  rcases h with ⟨h, h0⟩ | ⟨g', o', cap', cur, he, hg, hc, hm, hs, hx⟩
  · simp only [Value.slice.injEq] at h
    obtain ⟨rfl, rfl, rfl⟩ := h
    subst h0
    obtain rfl : p = 0 := by simpa using hp
    exact .inl ⟨rfl, rfl⟩
  · simp only [Value.slice.injEq] at he
    obtain ⟨rfl, rfl, rfl⟩ := he
    exact .inr ⟨g', o', cap, cur, by simp [Nat.min_eq_left hp], hg, by simp; omega, hm, hs, fun j u hj => by
      rw [List.getElem?_take] at hj
      split at hj
      · exact hx j u hj
      · cases hj⟩
theorem OwnQ.len {w : World} {e : TypeId} {a : Option Addr} {n cap : Nat} {xs : List Value} (h : OwnQ w e (.slice a n cap) xs) : xs.length = n := by
  rcases h with ⟨h, h0⟩ | ⟨g', o', cap', cur, he, _⟩
  · simp only [Value.slice.injEq] at h
    rw [h0, h.2.1]; rfl
  · simp only [Value.slice.injEq] at he
    exact he.2.1.symm
theorem OwnQ.addr {w : World} {e : TypeId} {a : Option Addr} {n c : Nat} {xs : List Value} (h : OwnQ w e (.slice a n c) xs) (hn : 0 < n) : ∃ g o, a = some ⟨g, o, none⟩ := by
  rcases h with ⟨h, h0⟩ | ⟨g', o', cap', cur, he, _⟩
  · simp only [Value.slice.injEq] at h; omega
  · simp only [Value.slice.injEq] at he; exact ⟨_, _, he.1⟩
end Go.Proofs.Ytpoinhfkgnkedaa.M
