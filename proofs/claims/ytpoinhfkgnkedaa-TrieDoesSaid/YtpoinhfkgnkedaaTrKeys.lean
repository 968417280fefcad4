/-
  trie.Keys: the keys are collected.
-/
import Derived.Test.YtpoinhfkgnkedaaTrDfs
import Derived.BigRegionIn
namespace Go.Proofs.Ytpoinhfkgnkedaa.M
open Go.RowKit Go.Shelf
set_option linter.unusedVariables false
set_option linter.unusedSectionVars false
set_option linter.unusedSimpArgs false
attribute [local go_sem] Oper.semAt_some
theorem NewRow.but {base W W' : World} {v : Value} {bs : List Int} {L : List Nat} (h : NewRow base W v bs) (hb : But L W W') (hL : ∀ x ∈ L, ∀ C f, W.heap[x]? ≠ some (.cells C 5 f)) : NewRow base W' v bs := by
  obtain ⟨a, c, rfl, h2, h3⟩ := h
  exact ⟨a, c, rfl, h2.but hb (fun k hk hm => by obtain ⟨cur, hg⟩ := h2.tag k hk; exact hL k hm _ _ hg), h3⟩
theorem NewRow.old {w W W' : World} {v : Value} {bs : List Int} (h : NewRow W W' v bs) (hs : w.heap.size ≤ W.heap.size) : NewRow w W' v bs := by
  obtain ⟨a, c, rfl, h2, h3⟩ := h
  exact ⟨a, c, rfl, h2, fun b hb => Nat.le_trans hs (h3 b hb)⟩
structure KtS (w : World) (R : Nat → List Int) (pre : List Nat) (W : World) (a : Option Addr) (c : Nat) (vals : List Value) : Prop where
  box : W.heap[w.heap.size]? = some (.cells #[.slice a vals.length c] 39)
  own : OwnQ W 26 (.slice a vals.length c) vals
  low : ∀ b, (Value.slice a vals.length c).ownBlock = some b → w.heap.size + 2 ≤ b
  len : vals.length = pre.length
  each : ∀ (i : Nat) (v : Value) (x : Nat), vals[i]? = some v → pre[i]? = some x → NewRow w W v (R x)
  apart : ∀ (i j : Nat) (u v : Value) (b : Nat), vals[i]? = some u → vals[j]? = some v → u.ownBlock = some b → v.ownBlock = some b → i = j
  but : But [] w W
def KtI (w : World) (R : Nat → List Int) (pre : List Nat) (W : World) : Prop := ∃ a c vals, KtS w R pre W a c vals
theorem KtI.abides (w : World) (R : Nat → List Int) : Abides (w.heap.size + 2) (KtI w R) := Abides.of_but fun s V W L h hb hL => by
  obtain ⟨a, c, vals, h⟩ := h
  have hno : ∀ x ∈ L, ∀ C T f, V.heap[x]? ≠ some (.cells C T f) := fun x hx C T f e => by
    obtain ⟨_, o, ho, hc⟩ := hL x hx
    rw [ho] at e
    cases e
    cases hc
  refine ⟨a, c, vals, hb.heap h.box (fun hm => by have := (hL _ hm).1; omega), h.own.but hb (fun k hk hm => ?_), h.low, h.len, fun i v x hv hx => (h.each i v x hv hx).but hb (fun y hy C f => hno y hy _ _ _), h.apart, h.but.trans hb (fun x hx => .inr (by have := (hL x hx).1; omega))⟩
  obtain ⟨cur, hg⟩ := h.own.tag k hk
  exact hno k hm _ _ _ hg
theorem kt_addr (a : Option Addr) (n c n' c' : Nat) : (Value.slice a n c).ownBlock = (Value.slice a n' c').ownBlock := by cases a <;> rfl
/-- A row more. -/
theorem KtS.step {w W W5 wz w7 : World} {R : Nat → List Int} {pre : List Nat} {a : Option Addr} {c : Nat} {vals : List Value} {v v' : Value} {x : Nat} (h : KtS w R pre W a c vals) (h5 : But [] W W5) (hrow : NewRow W W5 v (R x)) (hz : But [] W5 wz) (h0 : 0 < (R x).length)
    (hap : Appended wz w7 26 (.slice a vals.length c) v' vals [v]) (hsz : w.heap.size + 2 ≤ W.heap.size) :
    ∃ a7 c7, v' = .slice a7 (vals.length + 1) c7 ∧ w7.frozen? ⟨w.heap.size, 0, none⟩ = false ∧ (∃ u, w7.cell? ⟨w.heap.size, 0, none⟩ = some u) ∧ KtS w R (pre ++ [x]) (w7.setCell ⟨w.heap.size, 0, none⟩ (.slice a7 (vals.length + 1) c7)) a7 c7 (vals ++ [v]) ∧ But (w.heap.size :: (Value.slice a vals.length c).ownBlock.toList) W (w7.setCell ⟨w.heap.size, 0, none⟩ (.slice a7 (vals.length + 1) c7)) := by
  have hzW : But [] W wz := h5.trans hz (by simp)
  obtain ⟨hq, hc⟩ := hap
  obtain ⟨a7, c7, e⟩ := hq.form
  rw [List.length_append, List.length_singleton] at e
  subst e
  have hb7 : But (Value.slice a vals.length c).ownBlock.toList W w7 := by
    rcases hc with ⟨_, _, _, _, _, hb⟩ | ⟨_, hb⟩
    · exact (hzW.mono (by simp)).trans hb (fun x h => .inl h)
    · exact (hzW.trans hb (by simp)).mono (by simp)
  have hb7z : But (Value.slice a vals.length c).ownBlock.toList wz w7 := by
    rcases hc with ⟨_, _, _, _, _, hb⟩ | ⟨_, hb⟩
    · exact hb
    · exact hb.mono (by simp)
  have hlow7 : ∀ b, (Value.slice a7 (vals.length + 1) c7).ownBlock = some b → w.heap.size + 2 ≤ b := fun b hb => by
    rcases hc with ⟨a2, cap, e1, e2, _, _⟩ | ⟨hnew, _⟩
    · simp only [Value.slice.injEq] at e1 e2
      obtain ⟨rfl, _, rfl⟩ := e1
      obtain ⟨rfl, _, rfl⟩ := e2
      exact h.low b ((kt_addr _ _ _ _ _).trans hb)
    · rw [hnew] at hb
      cases hb
      exact Nat.le_trans hsz hzW.size
  have hOn : w.heap.size ∉ (Value.slice a vals.length c).ownBlock.toList := fun hm => by
    have := h.low w.heap.size (by simpa using hm)
    omega
  have hO7 := hb7.heap h.box hOn
  have hset : But [w.heap.size] w7 (w7.setCell ⟨w.heap.size, 0, none⟩ (.slice a7 (vals.length + 1) c7)) := (But.refl _ _).setCell (.inl (by simp)) _
  have hall : But (w.heap.size :: (Value.slice a vals.length c).ownBlock.toList) W (w7.setCell ⟨w.heap.size, 0, none⟩ (.slice a7 (vals.length + 1) c7)) := (hb7.mono (fun x hx => List.mem_cons_of_mem _ hx)).trans hset (fun x hx => .inl (by simp at hx; subst hx; simp))
  have hno : ∀ y ∈ w.heap.size :: (Value.slice a vals.length c).ownBlock.toList, ∀ C f, W.heap[y]? ≠ some (.cells C 5 f) := fun y hy C f e => by
    rcases List.mem_cons.1 hy with rfl | hy
    · rw [h.box] at e
      simp only [Option.some.injEq, Obj.cells.injEq] at e
      exact absurd e.2.1 (by decide)
    · obtain ⟨cur, hg⟩ := h.own.tag y (by simpa using hy)
      rw [hg] at e
      simp only [Option.some.injEq, Obj.cells.injEq] at e
      exact absurd e.2.1 (by decide)
  have hl : (vals ++ [v]).length = vals.length + 1 := by rw [List.length_append]; rfl
  obtain ⟨va, vc, rfl, hvo, hvl⟩ := hrow
  have hvo7 : OwnQ (w7.setCell ⟨w.heap.size, 0, none⟩ (.slice a7 (vals.length + 1) c7)) 5 (.slice va (R x).length vc) (u8s (R x)) := by
    refine ((hvo.but hz (by simp)).but hb7z (fun k hk hm => ?_)).but hset (fun k hk hm => ?_)
    · obtain ⟨cur, hg⟩ := h.own.tag k (by simpa using hm)
      have h1 := hvl k hk
      have h2 := lt_of hg
      omega
    · have h1 := hvl k hk
      simp only [List.mem_singleton] at hm
      omega
  refine ⟨a7, c7, rfl, by unfold World.frozen?; rw [hO7]; simp, ⟨_, cl_of hO7 0⟩, ⟨?_, ?_, ?_, ?_, fun i u y hv hy => ?_, fun i j u u' b hu hu' hb hb' => ?_, ?_⟩, hall⟩
  · rw [hl]; simp [World.setCell, Array.getElem?_modify, hO7]
  · rw [hl]
    refine hq.but hset (fun k hk hm => ?_)
    have := hlow7 k hk
    simp at hm
    omega
  · rw [hl]; exact hlow7
  · rw [hl, List.length_append, h.len]; rfl
  · by_cases hi : i < vals.length
    · rw [List.getElem?_append_left hi] at hv
      rw [List.getElem?_append_left (by rw [← h.len]; exact hi)] at hy
      exact (h.each i u y hv hy).but hall hno
    · rw [List.getElem?_append_right (by omega)] at hv
      rw [List.getElem?_append_right (by rw [← h.len]; omega), ← h.len] at hy
      cases hii : i - vals.length with
      | zero =>
        rw [hii] at hv hy
        simp at hv hy
        subst hv
        subst hy
        exact ⟨va, vc, rfl, hvo7, fun b hb => by have := hvl b hb; omega⟩
      | succ m => rw [hii] at hv; simp at hv
  · have old : ∀ (k : Nat) (z : Value), vals[k]? = some z → z.ownBlock = some b → b < W.heap.size := fun k z hz hzb => by
      have hkl : k < pre.length := by rw [← h.len]; exact (List.getElem?_eq_some_iff.1 hz).1
      obtain ⟨a9, c9, rfl, h9, _⟩ := h.each k z _ hz (List.getElem?_eq_getElem hkl)
      obtain ⟨cur, hg⟩ := h9.tag b hzb
      exact lt_of hg
    have one : ∀ (k : Nat) (z : Value), (vals ++ [Value.slice va (R x).length vc])[k]? = some z → (k < vals.length ∧ vals[k]? = some z) ∨ (k = vals.length ∧ z = .slice va (R x).length vc) := fun k z hz => by
      by_cases hk : k < vals.length
      · rw [List.getElem?_append_left hk] at hz
        exact .inl ⟨hk, hz⟩
      · rw [List.getElem?_append_right (by omega)] at hz
        cases hkk : k - vals.length with
        | zero =>
          rw [hkk] at hz
          simp at hz
          exact .inr ⟨by omega, hz.symm⟩
        | succ m => rw [hkk] at hz; simp at hz
    rcases one i u hu with ⟨h1, h2⟩ | ⟨h1, rfl⟩ <;> rcases one j u' hu' with ⟨h3, h4⟩ | ⟨h3, rfl⟩
    · exact h.apart i j u u' b h2 h4 hb hb'
    · have := old i u h2 hb
      have := hvl b hb'
      omega
    · have := old j u' h4 hb'
      have := hvl b hb
      omega
    · omega
  · exact (h.but.trans hall (fun x hx => .inr (by
      rcases List.mem_cons.1 hx with rfl | hx
      · exact Nat.le_refl _
      · have := h.low x (by simpa using hx)
        omega)))
end Go.Proofs.Ytpoinhfkgnkedaa.M
