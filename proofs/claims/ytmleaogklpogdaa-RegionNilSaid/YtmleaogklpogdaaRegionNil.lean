/-
  'RegionNil' tells true: the walk.
-/
import Derived.Test.YtmleaogklpogdaaAwake
namespace Go.Proofs.Ytmleaogklpogdaa.M
open Go.RowKit
set_option linter.unusedVariables false
set_option linter.unusedSectionVars false
set_option linter.unusedSimpArgs false
set_option maxRecDepth 100000 in
set_option maxHeartbeats 4000000 in
theorem regionNil (n off size : Int) (w : World) : Calls Try.prog 3 #[.int .i64 n, .int .i64 off, .int .i64 size] w fun e w' => e = .returned (.bool true) ∧ But [] w w' := by
  obtain ⟨W0, hW0⟩ : ∃ W0, W0 = (w.alloc (.cells #[.map none, .int .i64 0] 27)).alloc (.cells #[.pointer none, .pointer (some ⟨w.heap.size, 0, none⟩)] 22) := ⟨_, rfl⟩
  have hb0 : But [] w W0 := by rw [hW0]; exact ((But.refl [] w).alloc _).alloc _
  have hc1 : W0.cell? ⟨w.heap.size + 1, 1, none⟩ = some (.pointer (some ⟨w.heap.size, 0, none⟩)) := by
    have h := alloc_at (w.alloc (.cells #[.map none, .int .i64 0] 27)) (.cells #[.pointer none, .pointer (some ⟨w.heap.size, 0, none⟩)] 22)
    rw [size_alloc, ← hW0] at h
    exact cell_of h 1
  have hO1 : Off W0 (.pointer (some ⟨w.heap.size, 0, none⟩)) := .inr ⟨_, .int .i64 0, rfl, by rw [hW0]; exact alloc_lt (alloc_at w _) _⟩
  have HW := Lib.hid hW0
  clear hW0
  go_enter Try.func3, Try.ntmps3
  go_wp2_with fail
  rw [← HW.out]
  have hc0 : W0.cell? ⟨w.heap.size + 1, 0, none⟩ = some (.pointer none) := by
    have h := alloc_at (w.alloc (.cells #[.map none, .int .i64 0] 27)) (.cells #[.pointer none, .pointer (some ⟨w.heap.size, 0, none⟩)] 22)
    rw [size_alloc, ← HW.out] at h
    exact cell_of h 0
  clear HW
  have hbt := But.refl [] W0
  have hO : Off W0 (.pointer none) := .inl rfl
  refine wp_loop_rounds 3 ?_
  rw [rounds_succ]
  go_wp2_with (first | (go_at_call 5; refine (make_off _ _ _ _ hO).mono ?_; rintro e w' ⟨rfl, rfl⟩) | (go_at_call 6; refine (read_off _ _ _ _ _ hO).mono ?_; rintro e w1 ⟨rfl, hb⟩; replace hO := hO.but hb; replace hbt := hbt.trans hb (by simp); clear hb) | (go_at_call 7; refine (write_off _ _ _ _ none 0 0 _ hO rfl).mono ?_; rintro e w1 ⟨rfl, hb⟩; replace hO := hO.but hb; replace hbt := hbt.trans hb (by simp); clear hb) | (go_at_call 8; refine (free_off _ _ _ hO ⟨_, rfl⟩).mono ?_; rintro e w1 ⟨rfl, hb⟩; replace hO := hO.but hb; replace hbt := hbt.trans hb (by simp); clear hb) | (go_at_call 9; refine (kind_off _ _ _ _ hO rfl).mono ?_; rintro e w1 ⟨rfl, hb⟩; replace hO := hO.but hb; replace hbt := hbt.trans hb (by simp); clear hb) | (go_at_call 10; refine (size_off _ _ _ _ hO rfl).mono ?_; rintro e w1 ⟨rfl, hb⟩; replace hO := hO.but hb; replace hbt := hbt.trans hb (by simp); clear hb))
  rename_i W1
  have c1 := cell_but hbt hc1 (by simp)
  replace hO := hO1.but hbt
  rw [rounds_succ]
  go_wp2_with (first | (go_at_call 5; refine (make_off _ _ _ _ hO).mono ?_; rintro e w' ⟨rfl, rfl⟩) | (go_at_call 6; refine (read_off _ _ _ _ _ hO).mono ?_; rintro e w1 ⟨rfl, hb⟩; replace hO := hO.but hb; replace hbt := hbt.trans hb (by simp); clear hb) | (go_at_call 7; refine (write_off _ _ _ _ none 0 0 _ hO rfl).mono ?_; rintro e w1 ⟨rfl, hb⟩; replace hO := hO.but hb; replace hbt := hbt.trans hb (by simp); clear hb) | (go_at_call 8; refine (free_off _ _ _ hO ⟨_, rfl⟩).mono ?_; rintro e w1 ⟨rfl, hb⟩; replace hO := hO.but hb; replace hbt := hbt.trans hb (by simp); clear hb) | (go_at_call 9; refine (kind_off _ _ _ _ hO rfl).mono ?_; rintro e w1 ⟨rfl, hb⟩; replace hO := hO.but hb; replace hbt := hbt.trans hb (by simp); clear hb) | (go_at_call 10; refine (size_off _ _ _ _ hO rfl).mono ?_; rintro e w1 ⟨rfl, hb⟩; replace hO := hO.but hb; replace hbt := hbt.trans hb (by simp); clear hb))
  rename_i W2
  rw [rounds_succ]
  go_wp2_with (go_at_call 11; refine (awake _).mono ?_; rintro e w1 ⟨rfl, hb⟩)
  go_ret
  exact ⟨rfl, (hb0.trans hbt (by simp)).trans hb (by simp)⟩
theorem regionNil_walk (n off size : Int) (h0 : (Lit.int .i64 n).wf = true) (h1 : (Lit.int .i64 off).wf = true) (h2 : (Lit.int .i64 size).wf = true) (w : World) :
    Calls Try.prog 3 #[.int .i64 n, .int .i64 off, .int .i64 size] w fun e w' => e = .returned (.bool true) ∧ Below w.heap.size w w' :=
  (regionNil n off size w).mono fun _ _ ⟨he, hb⟩ => ⟨he, hb.below (Nat.le_refl _) (by simp)⟩
end Go.Proofs.Ytmleaogklpogdaa.M
