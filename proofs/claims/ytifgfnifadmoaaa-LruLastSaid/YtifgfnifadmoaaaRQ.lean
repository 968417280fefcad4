/-
  LruLast, plain: a slice of slices of one's own whose rows came in; it grows.
-/
import Derived.Test.YtifgfnifadmoaaaLruO
namespace Go.Proofs.Ytifgfnifadmoaaa.M
open Go.RowKit
set_option linter.unusedVariables false
set_option linter.unusedSectionVars false
set_option linter.unusedSimpArgs false
/-- A row that came in. -/
def RowIn (w : World) (x : Value) (r : List Int) : Prop := ∃ a c, x = .slice a r.length c ∧ Sees w (.slice a r.length c) (u8s r) ∧ ByteL r ∧ r.length ≤ 80
def RQ (w W : World) (S : Nat → Prop) (v : Value) (X : List (List Int)) : Prop := ∃ vals, OwnQ W 25 v vals ∧ vals.length = X.length ∧ (∀ b, v.ownBlock = some b → w.heap.size ≤ b ∧ ¬ S b) ∧ ∀ (i : Nat) (x : Value) (r : List Int), vals[i]? = some x → X[i]? = some r → RowIn w x r
section
variable {w W : World} {S : Nat → Prop} {v : Value} {X : List (List Int)}
theorem RQ.nil (w W : World) (S : Nat → Prop) : RQ w W S (.slice none 0 0) [] := ⟨[], OwnQ.nil _ _, rfl, (fun b hb => by cases hb), fun i x r hx => by simp at hx⟩
theorem RQ.form (h : RQ w W S v X) : ∃ a c, v = .slice a X.length c := by
  obtain ⟨vals, h1, h2, _⟩ := h
  obtain ⟨a, c, e⟩ := h1.form
  exact ⟨a, c, by rw [e, h2]⟩
theorem RQ.lt (h : RQ w W S v X) : ∀ b, v.ownBlock = some b → b < W.heap.size := fun b hb => by
  obtain ⟨vals, h1, _⟩ := h
  exact h1.lt hb
theorem RQ.keep {W' : World} (h : RQ w W S v X) {L : List Nat} (hb : But L W W') (hL : ∀ b, v.ownBlock = some b → b ∉ L) : RQ w W' S v X := by
  obtain ⟨vals, h1, h2, h3, h4⟩ := h
  exact ⟨vals, h1.but hb hL, h2, h3, h4⟩
/-- The lru turns. -/
theorem RQ.turn {W' : World} {S' : Nat → Prop} (h : RQ w W S v X) (ht : TurnsO S S' W W') : RQ w W' S' v X := by
  obtain ⟨hS, L, hL, hb⟩ := ht
  have hlt := h.lt
  obtain ⟨vals, h1, h2, h3, h4⟩ := h
  refine ⟨vals, h1.but hb (fun k hk hm => ?_), h2, fun b hb2 => ⟨(h3 b hb2).1, fun hs => (h3 b hb2).2 (hS b (hlt b hb2) hs)⟩, h4⟩
  rcases hL k hm with h5 | h5
  · exact (h3 k hk).2 h5
  · have := hlt k hk; omega
theorem RQ.at' (h : RQ w W S v X) {i : Nat} {r : List Int} (hr : X[i]? = some r) : ∃ ad n cc a c, v = .slice (some ad) n cc ∧ W.cell? (ad.add i) = some (.slice a r.length c) ∧ Sees w (.slice a r.length c) (u8s r) ∧ ByteL r ∧ r.length ≤ 80 := by
  obtain ⟨vals, h1, h2, h3, h4⟩ := h
  have hi : i < vals.length := by rw [h2]; exact (List.getElem?_eq_some_iff.1 hr).1
  have hv := List.getElem?_eq_getElem hi
  obtain ⟨a0, c0, e0, hx⟩ := sees_shape h1.sees
  obtain ⟨ad, rfl, hc⟩ := hx i _ hv
  obtain ⟨a, c, e, h5, h6, h7⟩ := h4 i _ r hv hr
  rw [e] at hc
  exact ⟨ad, _, _, a, c, e0, hc, h5, h6, h7⟩
/-- A row more. -/
theorem RQ.app {Wz w7 : World} {v' x : Value} {r : List Int} (h : RQ w W S v X) (hx : RowIn w x r) (hS : ∀ b, S b → b < W.heap.size) (hw : w.heap.size ≤ W.heap.size) (hz : But [] W Wz) (hap : ∀ vals, OwnQ W 25 v vals → vals.length = X.length → Appended Wz w7 25 v v' vals [x]) :
    RQ w w7 S v' (X ++ [r]) ∧ (∃ L, But L W w7 ∧ ∀ y ∈ L, v.ownBlock = some y) ∧ ∀ b, v'.ownBlock = some b → v.ownBlock = some b ∨ W.heap.size ≤ b := by
  obtain ⟨vals, h1, h2, h3, h4⟩ := h
  obtain ⟨hq, hc⟩ := hap vals h1 h2
  have hblk : ∀ b, v'.ownBlock = some b → v.ownBlock = some b ∨ W.heap.size ≤ b := fun b hb => by
    rcases hc with ⟨a2, cap, e1, e2, _, _⟩ | ⟨hnew, _⟩
    · left
      rw [e1]
      rw [e2] at hb
      exact (ky_addr _ _ _ _ _).trans hb
    · right
      rw [hnew] at hb
      cases hb
      exact hz.size
  refine ⟨⟨vals ++ [x], hq, by simp [h2], fun b hb => ?_, fun i y s hy hs => ?_⟩, ?_, hblk⟩
  · rcases hblk b hb with h5 | h5
    · exact h3 b h5
    · exact ⟨Nat.le_trans hw h5, fun hs => by have := hS b hs; omega⟩
  · by_cases hi : i < vals.length
    · rw [List.getElem?_append_left hi] at hy
      rw [List.getElem?_append_left (by rw [← h2]; exact hi)] at hs
      exact h4 i y s hy hs
    · rw [List.getElem?_append_right (by omega)] at hy
      rw [List.getElem?_append_right (by rw [← h2]; omega), ← h2] at hs
      cases hii : i - vals.length with
      | zero =>
        rw [hii] at hy hs
        simp at hy hs
        rw [← hy, ← hs]
        exact hx
      | succ m => rw [hii] at hy; simp at hy
  · rcases hc with ⟨_, _, _, _, _, hb⟩ | ⟨_, hb⟩
    · exact ⟨v.ownBlock.toList, (hz.mono (by simp)).trans hb (fun y hy => .inl hy), fun y hy => by simpa using hy⟩
    · exact ⟨[], hz.trans hb (by simp), by simp⟩
/-- All but the first. -/
theorem RQ.tail {g o c : Nat} {y : List Int} {Y : List (List Int)} (h : RQ w W S (.slice (some ⟨g, o, none⟩) (y :: Y).length c) (y :: Y)) : RQ w W S (.slice (some ⟨g, o + 1, none⟩) Y.length (c - 1)) Y := by
  obtain ⟨vals, h1, h2, h3, h4⟩ := h
  cases vals with
  | nil => simp at h2
  | cons x xs =>
    have e : xs.length = Y.length := by simpa using h2
    have h1' : OwnQ W 25 (.slice (some ⟨g, o, none⟩) (x :: xs).length c) (x :: xs) := by rw [h2]; exact h1
    have h5 := h1'.tail
    rw [e] at h5
    exact ⟨xs, h5, e, fun b hb => h3 b hb, fun i u r hu hr => h4 (i + 1) u r (by simpa using hu) (by simpa using hr)⟩
end
end Go.Proofs.Ytifgfnifadmoaaa.M
