/-
  A block whose cells are told by a function. No program.
-/
import Derived.Test.YtmaeiifhmngllaaHeap
import Derived.Laws.CopyOwn
import Derived.Lib.Hide
namespace Go.Proofs.Ytmaeiifhmngllaa.M
open Go.RowKit
set_option linter.unusedVariables false
set_option linter.unusedSectionVars false
set_option linter.unusedSimpArgs false
/-- Block P has n cells of type T, that f tells. -/
def Blk (w : World) (P : Nat) (T : TypeId) (n : Nat) (f : Nat → Value) : Prop := ∃ C : Array Value, w.heap[P]? = some (.cells C T (0, 0)) ∧ C.size = n ∧ ∀ i, i < n → C[i]? = some (f i)
theorem Blk.cell {w : World} {P : Nat} {T : TypeId} {n : Nat} {f : Nat → Value} (h : Blk w P T n f) {i : Nat} (hi : i < n) : w.cell? ⟨P, i, none⟩ = some (f i) := by
  obtain ⟨C, h1, _, h3⟩ := h
  unfold World.cell?
  rw [h1]
  exact h3 i hi
theorem Blk.cell' {w : World} {P : Nat} {T : TypeId} {n : Nat} {f : Nat → Value} (h : Blk w P T n f) {i : Nat} {v : Value} (hi : i < n) (hv : f i = v) : w.cell? ⟨P, i, none⟩ = some v := hv ▸ h.cell hi
theorem Blk.frozen {w : World} {P : Nat} {T : TypeId} {n : Nat} {f : Nat → Value} (h : Blk w P T n f) (i : Nat) : w.frozen? ⟨P, i, none⟩ = false := by
  obtain ⟨C, h1, _, h3⟩ := h
  unfold World.frozen?
  rw [h1]
  simp
theorem Blk.lt {w : World} {P : Nat} {T : TypeId} {n : Nat} {f : Nat → Value} (h : Blk w P T n f) : P < w.heap.size := by
  obtain ⟨C, h1, _⟩ := h
  exact lt_of h1
theorem Blk.but {L : List Nat} {w w' : World} {P : Nat} {T : TypeId} {n : Nat} {f : Nat → Value} (h : Blk w P T n f) (hb : But L w w') (hn : P ∉ L) : Blk w' P T n f := by
  obtain ⟨C, h1, h2, h3⟩ := h
  exact ⟨C, hb.heap h1 hn, h2, h3⟩
theorem Blk.congr {w : World} {P : Nat} {T : TypeId} {n : Nat} {f g : Nat → Value} (h : Blk w P T n f) (he : ∀ i, i < n → f i = g i) : Blk w P T n g := by
  obtain ⟨C, h1, h2, h3⟩ := h
  exact ⟨C, h1, h2, fun i hi => by rw [h3 i hi, he i hi]⟩
/-- A function with one value turned. -/
def upd (f : Nat → Value) (i : Nat) (v : Value) : Nat → Value := fun j => if j = i then v else f j
theorem heap_set {W : World} {g p : Nat} {cs : Array Value} {t : TypeId} {f : Nat × Nat} {v : Value} (h : W.heap[g]? = some (.cells cs t f)) : (W.setCell ⟨g, p, none⟩ v).heap[g]? = some (.cells (cs.set! p v) t f) := by
  simp [World.setCell, Array.getElem?_modify, h]
theorem Blk.set {w : World} {P : Nat} {T : TypeId} {n : Nat} {f : Nat → Value} (h : Blk w P T n f) (i : Nat) (v : Value) : Blk (w.setCell ⟨P, i, none⟩ v) P T n (upd f i v) := by
  obtain ⟨C, h1, h2, h3⟩ := h
  refine ⟨C.set! i v, heap_set h1, by simp [h2], fun j hj => ?_⟩
  unfold upd
  by_cases e : j = i
  · subst e
    rw [if_pos rfl]
    simp [h2, hj]
  · rw [if_neg e, ← h3 j hj]
    simp [Array.getElem?_setIfInBounds_ne (Ne.symm e)]
/-- A function with a row of values laid over it. -/
def updL (f : Nat → Value) (off : Nat) (cs : List Value) : Nat → Value := fun j => if off ≤ j then (cs[j - off]?).getD (f j) else f j
theorem blk_splice {w : World} {P : Nat} {T : TypeId} {n : Nat} {f : Nat → Value} {cur : List Value} {off : Nat} {cs : List Value} (hl : cur.length = n) (hf : ∀ i, i < n → cur[i]? = some (f i)) (hfit : off + cs.length ≤ n) (h : w.heap[P]? = some (.cells (splice cur off cs).toArray T (0, 0))) : Blk w P T n (updL f off cs) := by
  refine ⟨_, h, by simp [length_splice cur off cs (by omega), hl], fun i hi => ?_⟩
  rw [List.getElem?_toArray]
  unfold splice updL
  by_cases h1 : off ≤ i
  · rw [if_pos h1, List.getElem?_append_right (by rw [List.length_take]; omega), List.length_take, Nat.min_eq_left (by omega)]
    by_cases h2 : i - off < cs.length
    · rw [List.getElem?_append_left h2, List.getElem?_eq_getElem h2]
      rfl
    · rw [List.getElem?_append_right (by omega), List.getElem?_drop, show off + cs.length + (i - off - cs.length) = i by omega, hf i hi, List.getElem?_eq_none (by omega)]
      rfl
  · rw [if_neg h1, List.getElem?_append_left (by rw [List.length_take]; omega), List.getElem?_take, if_pos (by omega), hf i hi]
theorem Blk.list {w : World} {P : Nat} {T : TypeId} {n : Nat} {f : Nat → Value} (h : Blk w P T n f) : ∃ cur : List Value, w.heap[P]? = some (.cells cur.toArray T (0, 0)) ∧ cur.length = n ∧ ∀ i, i < n → cur[i]? = some (f i) := by
  obtain ⟨C, h1, h2, h3⟩ := h
  exact ⟨C.toList, by simpa using h1, by simpa using h2, fun i hi => by rw [← h3 i hi]; simp⟩
theorem updL_in {f : Nat → Value} {off j : Nat} {cs : List Value} {v : Value} (h : cs[j]? = some v) : updL f off cs (off + j) = v := by
  unfold updL
  rw [if_pos (by omega), show off + j - off = j by omega, h]
  rfl
theorem updL_out {f : Nat → Value} {off i : Nat} {cs : List Value} (h : i < off ∨ off + cs.length ≤ i) : updL f off cs i = f i := by
  unfold updL
  by_cases h1 : off ≤ i
  · rw [if_pos h1, List.getElem?_eq_none (by omega)]
    rfl
  · rw [if_neg h1]
theorem upd_in {f : Nat → Value} {i : Nat} {v : Value} : upd f i v i = v := if_pos rfl
theorem upd_out {f : Nat → Value} {i j : Nat} {v : Value} (h : j ≠ i) : upd f i v j = f j := if_neg h
end Go.Proofs.Ytmaeiifhmngllaa.M
