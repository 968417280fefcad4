/-
  'QueueNil' tells true: the walk.
-/
import Derived.Test.YtdobileefcidjaaQueAwake
namespace Go.Proofs.Ytdobileefcidjaa.M
open Go.RowKit Go.Shelf
set_option linter.unusedVariables false
set_option linter.unusedSectionVars false
set_option linter.unusedSimpArgs false
set_option maxRecDepth 100000 in
set_option maxHeartbeats 4000000 in
theorem queueNil (a : Option Addr) (n c : Nat) (f : Int) (w : World) : Calls Try.prog 4 #[.slice a n c, .int .u64 f] w fun e w' => e = .returned (.bool true) ∧ But [] w w' := by
  obtain ⟨W0, hW0⟩ : ∃ W0, W0 = (w.alloc (.cells #[.slice none 0 0, .int .u8 0, .int .i64 0, .int .i64 0, .int .i64 0, .nilFunc] 55)).alloc (.cells #[.pointer none, .pointer (some ⟨w.heap.size, 0, none⟩)] 28) := ⟨_, rfl⟩
  have hb0 : But [] w W0 := by rw [hW0]; exact ((But.refl [] w).alloc _).alloc _
  have hc1 : W0.cell? ⟨w.heap.size + 1, 1, none⟩ = some (.pointer (some ⟨w.heap.size, 0, none⟩)) := by
    rw [hW0]; exact cl_of (al_eq _ _ _ (by rw [size_alloc])) 1
  have hc0 : W0.cell? ⟨w.heap.size + 1, 0, none⟩ = some (.pointer none) := by
    rw [hW0]; exact cl_of (al_eq _ _ _ (by rw [size_alloc])) 0
  have hO1 : OffQ W0 (.pointer (some ⟨w.heap.size, 0, none⟩)) := .inr ⟨_, .slice none 0 0, rfl, by rw [hW0]; exact al_keep (al_at w _) _⟩
  have HW := Lib.hid hW0
  have HC := Lib.hid hc0
  clear hW0 hc0
  go_enter Try.func4, Try.ntmps4
  go_wp2_with fail
  rw [← HW.out]
  have hc0 := HC.out
  clear HW
  have hO : OffQ W0 (.pointer none) := .inl rfl
  refine wp_loop_rounds 3 ?_
  rw [rounds_succ]
  go_wp2_with (first | (go_at_call 13; refine (pop_off _ _ hO).mono ?_; rintro e w' ⟨rfl, rfl⟩) | (go_at_call 16; refine (peek_off _ _ hO).mono ?_; rintro e w' ⟨rfl, rfl⟩) | (go_at_call 18; refine (push_off _ _ _ _ hO).mono ?_; rintro e w' ⟨rfl, rfl⟩) | (go_at_call 22; refine (many_off _ _ hO).mono ?_; rintro e w' ⟨rfl, rfl⟩))
  replace hO := hO1
  rw [rounds_succ]
  go_wp2_with (first | (go_at_call 13; refine (pop_off _ _ hO).mono ?_; rintro e w' ⟨rfl, rfl⟩) | (go_at_call 16; refine (peek_off _ _ hO).mono ?_; rintro e w' ⟨rfl, rfl⟩) | (go_at_call 18; refine (push_off _ _ _ _ hO).mono ?_; rintro e w' ⟨rfl, rfl⟩) | (go_at_call 22; refine (many_off _ _ hO).mono ?_; rintro e w' ⟨rfl, rfl⟩))
  rw [rounds_succ]
  go_wp2_with (go_at_call 8; refine (awake _).mono ?_; rintro e w1 ⟨rfl, hb⟩)
  go_ret
  exact ⟨rfl, hb0.trans hb (by simp)⟩
theorem queueNil_walk (w : World) (v : Value) (xs : List Value) (f : Int) (hs : Sees w v xs) (hb : IsBytes xs) (hl : xs.length ≤ 140737488351232) (hf : (Lit.int .u64 f).wf = true) :
    Calls Try.prog 4 #[v, .int .u64 f] w fun e w' => e = .returned (.bool true) ∧ Below w.heap.size w w' := by
  obtain ⟨a, c, rfl, _⟩ := sees_shape hs
  exact (queueNil a _ c f w).mono fun _ _ ⟨he, hb⟩ => ⟨he, hb.below (Nat.le_refl _) (by simp)⟩
end Go.Proofs.Ytdobileefcidjaa.M
