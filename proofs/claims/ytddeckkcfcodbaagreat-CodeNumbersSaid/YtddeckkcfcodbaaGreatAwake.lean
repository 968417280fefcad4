/-
  hatchwaylaw02.awake.
-/
import Derived.Test.YtddeckkcfcodbaaGreatGet
namespace Go.Proofs.YtddeckkcfcodbaaGreat.M
open Go.RowKit Go.Shelf
set_option linter.unusedVariables false
set_option linter.unusedSectionVars false
set_option linter.unusedSimpArgs false
def x0 : Ins := ⟨183, 1, 2, -2, 258⟩
def r0 : List Int := [183, 33, 254, 255, 2, 1, 0, 0]
theorem x0_err : putErr [x0] = 0 := by decide +kernel
theorem x0_row : putRow [x0] = r0 := by decide +kernel
theorem seesD_of {w : World} {a : Option Addr} {n c : Nat} {bs : List Int} (h : OwnQ w 5 (.slice a n c) (u8s bs)) (m : Nat) (hm : m ≤ bs.length) : SeesD w a c (bs.take m) := by
  have hl := h.len
  rw [u8s_len] at hl
  refine ⟨?_, fun i x hx => ?_⟩
  · rcases h with ⟨e, h0⟩ | ⟨g, o, cap, cur, e, _, hc, _⟩
    · have : bs.length = 0 := by rw [← u8s_len, h0]; rfl
      rw [List.length_take]; omega
    · simp only [Value.slice.injEq] at e
      obtain ⟨_, _, rfl⟩ := e
      rw [u8s_len] at hc
      rw [List.length_take]; omega
  · have hi : i < bs.length := by have := (List.getElem?_eq_some_iff.1 hx).1; rw [List.length_take] at this; omega
    obtain ⟨g, o, rfl⟩ := h.addr (by omega)
    refine ⟨g, o, rfl, h.cellAt ?_⟩
    rw [List.getElem?_take] at hx
    split at hx
    · unfold u8s; rw [List.getElem?_map, hx]; rfl
    · cases hx
set_option maxRecDepth 100000 in
set_option maxHeartbeats 4000000 in
theorem awake (w : World) : Calls Tryz.prog 11 #[] w fun e w' => e = .returned (.bool true) ∧ But [] w w' := by
  obtain ⟨w1, hw1⟩ : ∃ w1, w1 = w.alloc (.cells #[.int .u8 183, .int .u8 1, .int .u8 2, .int .i16 (-2), .int .i32 258] 27) := ⟨_, rfl⟩
  have hb1 : But [] w w1 := by rw [hw1]; exact (But.refl [] w).alloc _
  have hat : w1.heap[w.heap.size]? = some (.cells #[.int .u8 183, .int .u8 1, .int .u8 2, .int .i16 (-2), .int .i32 258] 27) := by rw [hw1]; exact al_at _ _
  have hz : w1.heap.size = w.heap.size + 1 := by rw [hw1, size_alloc]
  have HP := Lib.hid (put_c (.slice (some ⟨w.heap.size, 0, none⟩) 1 1) [x0] w1 (seesI_cells (l := [x0]) rfl (fun j u hj => by rw [cl_of hat]; simpa [Ins.cells, x0] using hj)) (by intro x hx; simp at hx; subst hx; exact ⟨by decide, by decide, by decide, by decide, by decide⟩) (by simp) (fun b hb _ => by cases hb; show w.heap.size < _; omega))
  have HW := Lib.hid hw1
  have HB1 := Lib.hid hb1
  clear hw1 hb1 hat hz
  go_enter Tryz.func11, Tryz.ntmps11
  go_wp2_with fail
  rw [← HW.out]
  refine HP.out.mono ?_
  rintro e w2 ⟨a, n, c, rfl, hr, hb2⟩
  obtain rfl : n = 8 := by have := hr.1.len; rw [u8s_len, x0_row] at this; exact this.symm
  rw [x0_err]
  have hq := hr.1
  rw [x0_row] at hq
  have HQ := Lib.hid hq
  have HB2 := Lib.hid (HB1.out.trans hb2 (by simp))
  have hc8 : 8 ≤ c := (seesD_of hq 8 (by decide)).1
  have HG := Lib.hid (get_c a c (r0.take 7) w2 (seesD_of hq 7 (by decide)) (show ∀ x ∈ r0.take 7, 0 ≤ x ∧ x ≤ 255 by decide) (by decide))
  clear hr hb2 hq
  go_wp2_with fail
  refine HG.out.mono ?_
  rintro e w3 ⟨a3, n3, c3, rfl, hr3, hb3⟩
  rw [show getErr (r0.take 7).length = 4 by decide]
  have HB3 := Lib.hid (HB2.out.trans hb3 (by simp))
  have HQ3 := Lib.hid (HQ.out.but hb3 (by simp))
  clear hr3 hb3
  go_wp2_with fail
  refine (get_c none 0 [] _ ⟨by simp, fun i x hx => by simp at hx⟩ (by intro x hx; cases hx) (by simp)).mono ?_
  rintro e w4 ⟨a4, n4, c4, rfl, hr4, hb4⟩
  obtain rfl : n4 = 0 := by
    obtain ⟨a', c', e⟩ := hr4.form
    cases e
    rfl
  rw [show getErr ([] : List Int).length = 0 by decide]
  have HB4 := Lib.hid (HB3.out.trans hb4 (by simp))
  have HQ4 := Lib.hid (HQ3.out.but hb4 (by simp))
  clear hr4 hb4
  have HS4 : Hid (Sees (w4.alloc (.cells #[.int .u8 183, .int .u8 33, .int .u8 254, .int .u8 255, .int .u8 2, .int .u8 1, .int .u8 0, .int .u8 0] 5)) (.slice (some ⟨w4.heap.size, 0, none⟩) 8 8) (r0.map (.int .u8))) := Lib.hid (.inr ⟨⟨w4.heap.size, 0, none⟩, 8, rfl, by decide, fun j u hj => by rw [add_at, Nat.zero_add, cl_of (al_at _ _)]; simpa [r0] using hj⟩)
  have HQ5 := Lib.hid ((HQ4.out.but ((But.refl [] w4).alloc (.cells #[.int .u8 183, .int .u8 33, .int .u8 254, .int .u8 255, .int .u8 2, .int .u8 1, .int .u8 0, .int .u8 0] 5)) (by simp)).sees)
  go_wp2_with fail
  refine (same _ _ r0 r0 _ HQ5.out HS4.out (by decide)).mono ?_
  rintro e w5 ⟨rfl, hb5⟩
  have HB5 : Hid (But [] w w5) := Lib.hid ((HB4.out.alloc _).trans hb5 (by simp))
  clear hb5
  rw [show decide (r0 = r0) = true by simp]
  go_wp2_with fail
  go_ret
  exact ⟨rfl, HB5.out⟩
end Go.Proofs.YtddeckkcfcodbaaGreat.M
