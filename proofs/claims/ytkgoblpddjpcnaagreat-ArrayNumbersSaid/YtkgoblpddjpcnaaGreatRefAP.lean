/-
  The reference's array: plain: as it lies, all values in one row of bytes.
-/
import Derived.Test.YtkgoblpddjpcnaaGreatArrAll
import Derived.Test.YtkgoblpddjpcnaaGreatCopyB
namespace Go.Proofs.YtkgoblpddjpcnaaGreat.M
open Go.RowKit Go.Shelf
set_option linter.unusedVariables false
set_option linter.unusedSectionVars false
set_option linter.unusedSimpArgs false
theorem flat_len {val : Nat} : ∀ {rows : List (List Value)}, (∀ r ∈ rows, r.length = val) → rows.flatten.length = rows.length * val
  | [], _ => by simp
  | x :: xs, h => by
    rw [List.flatten_cons, List.length_append, flat_len (fun r hr => h r (by simp [hr])), h x (by simp), List.length_cons, Nat.add_mul]
    omega
theorem flat_split {val : Nat} {rows : List (List Value)} {j : Nat} {r : List Value} (h : ∀ r ∈ rows, r.length = val) (hr : rows[j]? = some r) :
    ∃ A C : List Value, rows.flatten = A ++ (r ++ C) ∧ A.length = j * val ∧ ∀ r', (rows.set j r').flatten = A ++ (r' ++ C) := by
  obtain ⟨hj, e⟩ := List.getElem?_eq_some_iff.1 hr
  refine ⟨(rows.take j).flatten, (rows.drop (j + 1)).flatten, ?_, ?_, fun r' => ?_⟩
  · conv => lhs; rw [← List.take_append_drop j rows, List.drop_eq_getElem_cons hj, e]
    rw [List.flatten_append, List.flatten_cons]
  · rw [flat_len (fun r hr => h r (List.mem_of_mem_take hr)), List.length_take, Nat.min_eq_left (by omega)]
  · rw [List.set_eq_take_append_cons_drop, if_pos hj, List.flatten_append, List.flatten_cons]
theorem flat_splice {val off : Nat} {rows : List (List Value)} {j : Nat} {r cs : List Value} (h : ∀ r ∈ rows, r.length = val) (hr : rows[j]? = some r) (hf : off + cs.length ≤ val) :
    splice rows.flatten (j * val + off) cs = (rows.set j (splice r off cs)).flatten := by
  obtain ⟨A, C, e1, e2, e3⟩ := flat_split h hr
  have hrl := h r (List.mem_of_getElem? hr)
  rw [e3, e1, ← e2]
  unfold splice
  rw [List.take_append, List.take_of_length_le (by omega), show A.length + off - A.length = off by omega]
  rw [List.drop_append, List.drop_of_length_le (by omega), List.nil_append, show A.length + off + cs.length - A.length = off + cs.length by omega]
  rw [List.take_append_of_le_length (by omega), List.drop_append_of_le_length (by omega)]
  simp only [List.append_assoc]
theorem flat_row {val : Nat} {rows : List (List Value)} {j : Nat} {r : List Value} (h : ∀ r ∈ rows, r.length = val) (hr : rows[j]? = some r) {i : Nat} {u : Value} (hu : r[i]? = some u) : rows.flatten[j * val + i]? = some u := by
  obtain ⟨A, C, e1, e2, _⟩ := flat_split h hr
  have hi : i < r.length := (List.getElem?_eq_some_iff.1 hu).1
  rw [e1, ← e2, List.getElem?_append_right (by omega), show A.length + i - A.length = i by omega, List.getElem?_append_left hi]
  exact hu
theorem flat_room {val : Nat} {rows : List (List Value)} {j : Nat} {r : List Value} (h : ∀ r ∈ rows, r.length = val) (hr : rows[j]? = some r) : j * val + val ≤ rows.length * val := by
  have hj : j < rows.length := (List.getElem?_eq_some_iff.1 hr).1
  have := Nat.mul_le_mul_right val (show j + 1 ≤ rows.length by omega)
  rw [Nat.add_mul] at this
  omega
/-- The reference's array as it lies; all its blocks are among the right ones. -/
structure RefA (w : World) (ok : Nat → Prop) (X val : Nat) (rows : List (List Value)) : Prop where
  okX : ok X
  lies : ∃ B : Nat, w.heap[X]? = some (.cells #[.int .u8 1, .int .i64 4, .int .i64 val, .int .i64 rows.length, .slice (some ⟨B, 0, none⟩) (val * rows.length) (val * rows.length)] 61) ∧ w.heap[B]? = some (.cells rows.flatten.toArray 5 (0, 0)) ∧ ok B
  each : ∀ r ∈ rows, (∀ u ∈ r, ∃ n : Int, u = .int .u8 n) ∧ r.length = val
  pos : 1 ≤ val ∧ val ≤ 1024
  few : rows.length ≤ 1024
section
variable {w w' : World} {ok ok' : Nat → Prop} {X val : Nat} {rows : List (List Value)}
theorem RefA.keep {L : List Nat} (h : RefA w ok X val rows) (hb : But L w w') (hL : ∀ x ∈ L, ¬ ok x) : RefA w' ok X val rows := by
  obtain ⟨hX, ⟨B, h1, h2, h3⟩, h4, h5, h6⟩ := h
  exact ⟨hX, ⟨B, hb.heap h1 (fun hm => hL _ hm hX), hb.heap h2 (fun hm => hL _ hm h3), h3⟩, h4, h5, h6⟩
theorem RefA.also (h : RefA w ok X val rows) (hk : ∀ b, b < w.heap.size → ok b → ok' b) : RefA w ok' X val rows := by
  obtain ⟨hX, ⟨B, h1, h2, h3⟩, h4, h5, h6⟩ := h
  exact ⟨hk _ (lt_of h1) hX, ⟨B, h1, h2, hk _ (lt_of h2) h3⟩, h4, h5, h6⟩
theorem RefA.lens (h : RefA w ok X val rows) : ∀ r ∈ rows, r.length = val := fun r hr => (h.each r hr).2
/-- A copy into the value at a place. -/
theorem RefA.write (h : RefA w ok X val rows) {B j off : Nat} {r cs : List Value} (h1 : w.heap[X]? = some (.cells #[.int .u8 1, .int .i64 4, .int .i64 val, .int .i64 rows.length, .slice (some ⟨B, 0, none⟩) (val * rows.length) (val * rows.length)] 61)) (hr : rows[j]? = some r) (hf : off + cs.length ≤ val) (hcs : ∀ u ∈ cs, ∃ n : Int, u = .int .u8 n)
    (hw : w'.heap[B]? = some (.cells (splice rows.flatten (j * val + off) cs).toArray 5 (0, 0))) (hb : But [B] w w') : ok B ∧ RefA w' ok X val (rows.set j (splice r off cs)) := by
  obtain ⟨hX, ⟨B', g1, g2, g3⟩, h4, h5, h6⟩ := h
  rw [h1] at g1
  simp only [Option.some.injEq, Obj.cells.injEq, Array.mk.injEq, List.cons.injEq, Value.slice.injEq, Addr.mk.injEq, and_true, true_and] at g1
  subst g1
  have hXB : X ∉ [B] := fun hm => by
    simp only [List.mem_singleton] at hm
    subst hm
    rw [h1] at g2
    simp only [Option.some.injEq, Obj.cells.injEq] at g2
    exact absurd g2.2.1 (by decide)
  have hrl := (h4 r (List.mem_of_getElem? hr)).2
  refine ⟨g3, hX, ⟨B, by rw [List.length_set]; exact hb.heap h1 hXB, ?_, g3⟩, fun s hs => ?_, h5, by rw [List.length_set]; exact h6⟩
  · rw [← flat_splice (fun r hr => (h4 r hr).2) hr hf]; exact hw
  · rcases List.mem_or_eq_of_mem_set hs with hs | rfl
    · exact h4 s hs
    · exact ⟨splice_bytes (h4 r (List.mem_of_getElem? hr)).1 hcs, by rw [length_splice _ _ _ (by omega)]; exact hrl⟩
end
end Go.Proofs.YtkgoblpddjpcnaaGreat.M
