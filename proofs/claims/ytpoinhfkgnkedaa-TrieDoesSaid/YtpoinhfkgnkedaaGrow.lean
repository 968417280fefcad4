/-
  trie, plain: nodes that are made on the way down a path.
-/
import Derived.Test.YtpoinhfkgnkedaaGA
namespace Go.Proofs.Ytpoinhfkgnkedaa.M
open Go.RowKit Go.Shelf
set_option linter.unusedVariables false
set_option linter.unusedSectionVars false
set_option linter.unusedSimpArgs false
structure Grown (w : World) (nd xs : Path → Option Nat) (pre : Path) (nd' : Path → Option Nat) (W : World) : Prop where
  tree : Tree W nd' xs
  here : ∃ b, nd' pre = some b
  off : ∀ ρ, ¬ ρ <+: pre → nd' ρ = nd ρ
  old : ∀ ρ b, nd ρ = some b → nd' ρ = some b
  new : ∀ ρ b, nd' ρ = some b → nd ρ = some b ∨ w.heap.size ≤ b
  but : ∃ L, (∀ x ∈ L, ∃ ρ, nd ρ = some x) ∧ But L w W
theorem But.join {L M : List Nat} {a b c : World} (h : But L a b) (k : But M b c) : But (L ++ M) a c :=
  (h.mono (fun x hx => List.mem_append_left _ hx)).trans k (fun x hx => .inl (List.mem_append_right _ hx))
theorem Grown.refl {w : World} {nd xs : Path → Option Nat} (h : Tree w nd xs) : Grown w nd xs [] nd w :=
  ⟨h, h.root, fun _ _ => rfl, fun _ _ h => h, fun _ _ h => .inl h, [], by simp, But.refl _ _⟩
theorem Grown.turn {w V W : World} {nd xs nd' : Path → Option Nat} {pre : Path} {L : List Nat} (h : Grown w nd xs pre nd' V) (hb : But L V W) (hL : ∀ x ∈ L, w.heap.size ≤ x ∧ ∀ π, nd' π ≠ some x) : Grown w nd xs pre nd' W := by
  obtain ⟨M, hM, hbM⟩ := h.but
  exact ⟨h.tree.but hb (fun π b hp hm => (hL b hm).2 π hp), h.here, h.off, h.old, h.new, M, hM, hbM.trans hb (fun x hx => .inr (hL x hx).1)⟩
theorem prefix_more {ρ pre : Path} {x : Int} (h : ¬ ρ <+: pre ++ [x]) : ¬ ρ <+: pre := fun k => h (k.trans (List.prefix_append _ _))
theorem Grown.step {w W : World} {nd xs nd' : Path → Option Nat} {pre : Path} {x : Int} {a : Nat} (h : Grown w nd xs pre nd' W) (ha : nd' (pre ++ [x]) = some a) : Grown w nd xs (pre ++ [x]) nd' W :=
  ⟨h.tree, ⟨a, ha⟩, fun ρ hr => h.off ρ (prefix_more hr), h.old, h.new, h.but⟩
/-- A node at one more path. -/
def plus (nd : Path → Option Nat) (π : Path) (q : Nat) : Path → Option Nat := fun ρ => if ρ = π then some q else nd ρ
theorem plus_at (nd : Path → Option Nat) (π : Path) (q : Nat) : plus nd π q π = some q := by simp [plus]
theorem plus_off (nd : Path → Option Nat) {π ρ : Path} (q : Nat) (h : ρ ≠ π) : plus nd π q ρ = nd ρ := by simp [plus, h]
theorem snoc_ne (π : Path) (c : Int) : π ≠ π ++ [c] := by
  intro h
  have := congrArg List.length h
  simp at this
theorem snoc_inj {π ρ : Path} {c d : Int} (h : π ++ [c] = ρ ++ [d]) : π = ρ ∧ c = d := by
  have h1 := List.append_inj' h rfl
  simp at h1
  exact h1
def nodeCells (l r x : Option Nat) : Array Value := #[pv l, pv r, pv x]
theorem Tree.make {W : World} {nd xs : Path → Option Nat} {pre : Path} {b : Nat} {x : Int} (h : Tree W nd xs) (hb : nd pre = some b) (hx : x = 0 ∨ x = 1) (hn : nd (pre ++ [x]) = none) (V : World)
    (h1 : V.heap[b]? = some (.cells (nodeCells (if x = 0 then some W.heap.size else nd (pre ++ [0])) (if x = 1 then some W.heap.size else nd (pre ++ [1])) (xs pre)) 67))
    (h2 : V.heap[W.heap.size]? = some (.cells (nodeCells none none none) 67)) (hV : But [b] W V) : Tree V (plus nd (pre ++ [x]) W.heap.size) xs := by
  have hlt : ∀ π c, nd π = some c → c ≠ W.heap.size := fun π c hc => by have := h.lt hc; omega
  refine ⟨?_, fun π c a ha => ?_, fun π ρ a ha hr => ?_, fun π a ha => ?_, fun π e he => ?_⟩
  · obtain ⟨r, hr⟩ := h.root
    exact ⟨r, by rw [plus_off _ _ (by intro e; have := congrArg List.length e; simp at this)]; exact hr⟩
  · by_cases e : π ++ [c] = pre ++ [x]
    · obtain ⟨rfl, rfl⟩ := snoc_inj e
      exact ⟨hx, b, by rw [plus_off _ _ (snoc_ne _ _)]; exact hb⟩
    · rw [plus_off _ _ e] at ha
      obtain ⟨h3, a', h4⟩ := h.closed _ _ _ ha
      by_cases e2 : π = pre ++ [x]
      · exact ⟨h3, _, by rw [e2]; exact plus_at _ _ _⟩
      · exact ⟨h3, a', by rw [plus_off _ _ e2]; exact h4⟩
  · by_cases e1 : π = pre ++ [x]
    · by_cases e2 : ρ = pre ++ [x]
      · rw [e1, e2]
      · rw [e1, plus_at] at ha
        rw [plus_off _ _ e2] at hr
        cases ha
        exact absurd rfl (hlt _ _ hr)
    · rw [plus_off _ _ e1] at ha
      by_cases e2 : ρ = pre ++ [x]
      · rw [e2, plus_at] at hr
        cases hr
        exact absurd rfl (hlt _ _ ha)
      · rw [plus_off _ _ e2] at hr
        exact h.inj _ _ _ ha hr
  · by_cases e1 : π = pre ++ [x]
    · subst e1
      rw [plus_at] at ha
      cases ha
      have hc (c : Int) : plus nd (pre ++ [x]) W.heap.size (pre ++ [x] ++ [c]) = none := by
        rw [plus_off _ _ (fun e => snoc_ne _ _ e.symm)]
        exact h.none_down hn (List.prefix_append _ _)
      have hxs : xs (pre ++ [x]) = none := by
        cases he : xs (pre ++ [x]) with
        | none => rfl
        | some e => obtain ⟨b', hb'⟩ := h.ent _ _ he; rw [hn] at hb'; cases hb'
      unfold NodeAt
      rw [hc 0, hc 1, hxs]
      exact h2
    · rw [plus_off _ _ e1] at ha
      by_cases e2 : π = pre
      · subst e2
        rw [hb] at ha
        cases ha
        unfold NodeAt
        rw [h1]
        have hc (c : Int) : plus nd (π ++ [x]) W.heap.size (π ++ [c]) = if x = c then some W.heap.size else nd (π ++ [c]) := by
          by_cases e : x = c
          · subst e; rw [plus_at, if_pos rfl]
          · rw [plus_off _ _ (fun k => e (snoc_inj k).2.symm), if_neg e]
        rw [hc 0, hc 1]
        rfl
      · have hc (c : Int) : plus nd (pre ++ [x]) W.heap.size (π ++ [c]) = nd (π ++ [c]) := plus_off _ _ (fun k => e2 (snoc_inj k).1)
        unfold NodeAt
        rw [hc 0, hc 1]
        exact hV.heap (h.cell π a ha) (by simp only [List.mem_singleton]; rintro rfl; exact e2 (h.inj _ _ _ ha hb))
  · obtain ⟨b', hb'⟩ := h.ent _ _ he
    by_cases e1 : π = pre ++ [x]
    · exact ⟨_, by rw [e1]; exact plus_at _ _ _⟩
    · exact ⟨b', by rw [plus_off _ _ e1]; exact hb'⟩
theorem Grown.make {w W V : World} {nd xs nd' : Path → Option Nat} {pre : Path} {x : Int} {b : Nat} (h : Grown w nd xs pre nd' W) (hb : nd' pre = some b) (hx : x = 0 ∨ x = 1) (hn : nd' (pre ++ [x]) = none)
    (h1 : V.heap[b]? = some (.cells (nodeCells (if x = 0 then some W.heap.size else nd' (pre ++ [0])) (if x = 1 then some W.heap.size else nd' (pre ++ [1])) (xs pre)) 67))
    (h2 : V.heap[W.heap.size]? = some (.cells (nodeCells none none none) 67)) (hV : But [b] W V) : Grown w nd xs (pre ++ [x]) (plus nd' (pre ++ [x]) W.heap.size) V := by
  obtain ⟨L, hL, hbL⟩ := h.but
  refine ⟨h.tree.make hb hx hn V h1 h2 hV, ⟨_, plus_at _ _ _⟩, fun ρ hr => ?_, fun ρ c hc => ?_, fun ρ c hc => ?_, ?_⟩
  · rw [plus_off _ _ (by rintro rfl; exact hr (List.prefix_refl _))]
    exact h.off ρ (prefix_more hr)
  · rw [plus_off _ _ (by rintro rfl; rw [h.old _ _ hc] at hn; cases hn)]
    exact h.old _ _ hc
  · by_cases e : ρ = pre ++ [x]
    · subst e
      rw [plus_at] at hc
      cases hc
      exact .inr hbL.size
    · rw [plus_off _ _ e] at hc
      exact h.new _ _ hc
  · rcases h.new _ _ hb with ho | ho
    · exact ⟨L ++ [b], fun y hy => by
        rcases List.mem_append.1 hy with hy | hy
        · exact hL y hy
        · simp only [List.mem_singleton] at hy; subst hy; exact ⟨_, ho⟩, hbL.join hV⟩
    · exact ⟨L, hL, hbL.trans hV (fun y hy => .inr (by simp at hy; omega))⟩
end Go.Proofs.Ytpoinhfkgnkedaa.M
