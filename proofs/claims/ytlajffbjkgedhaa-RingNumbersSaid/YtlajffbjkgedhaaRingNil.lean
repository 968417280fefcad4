/-
  'RingNil' tells true: the walk.
-/
import Derived.Test.YtlajffbjkgedhaaRingAwake
namespace Go.Proofs.Ytlajffbjkgedhaa.M
open Go.RowKit
set_option linter.unusedVariables false
set_option linter.unusedSectionVars false
set_option linter.unusedSimpArgs false
set_option maxRecDepth 100000 in
set_option maxHeartbeats 4000000 in
theorem ringNil (a : Option Addr) (n c : Nat) (w : World) : Calls Try.prog 4 #[.slice a n c] w fun e w' => e = .returned (.bool true) ∧ But [] w w' := by
  obtain ⟨W0, hW0⟩ : ∃ W0, W0 = (w.alloc (.cells #[.pointer none, .pointer none, .int .i64 0] 52)).alloc (.cells #[.pointer none, .pointer (some ⟨w.heap.size, 0, none⟩)] 28) := ⟨_, rfl⟩
  have hb0 : But [] w W0 := by rw [hW0]; exact ((But.refl [] w).alloc _).alloc _
  have hc1 : W0.cell? ⟨w.heap.size + 1, 1, none⟩ = some (.pointer (some ⟨w.heap.size, 0, none⟩)) := by
    have h := alloc_at (w.alloc (.cells #[.pointer none, .pointer none, .int .i64 0] 52)) (.cells #[.pointer none, .pointer (some ⟨w.heap.size, 0, none⟩)] 28)
    rw [size_alloc, ← hW0] at h
    exact cell_of h 1
  have hc0 : W0.cell? ⟨w.heap.size + 1, 0, none⟩ = some (.pointer none) := by
    have h := alloc_at (w.alloc (.cells #[.pointer none, .pointer none, .int .i64 0] 52)) (.cells #[.pointer none, .pointer (some ⟨w.heap.size, 0, none⟩)] 28)
    rw [size_alloc, ← hW0] at h
    exact cell_of h 0
  have hO1 : OffR W0 (.pointer (some ⟨w.heap.size, 0, none⟩)) := .inr ⟨_, .pointer none, .pointer none, rfl, by rw [hW0]; exact alloc_keep (alloc_at w _) _⟩
  have HW := Lib.hid hW0
  have HC := Lib.hid hc0
  clear hW0 hc0
  go_enter Try.func4, Try.ntmps4
  go_wp2_with fail
  rw [← HW.out]
  have hc0 := HC.out
  clear HW
  have hO : OffR W0 (.pointer none) := .inl rfl
  refine wp_loop_rounds 3 ?_
  rw [rounds_succ]
  go_wp2_with (first | (go_at_call 12; refine (take_off _ _ hO).mono ?_; rintro e w' ⟨rfl, rfl⟩) | (go_at_call 15; refine (put_off _ _ _ hO).mono ?_; rintro e w' ⟨rfl, rfl⟩) | (go_at_call 19; refine (room_off _ _ hO).mono ?_; rintro e w' ⟨rfl, rfl⟩))
  replace hO := hO1
  rw [rounds_succ]
  go_wp2_with (first | (go_at_call 12; refine (take_off _ _ hO).mono ?_; rintro e w' ⟨rfl, rfl⟩) | (go_at_call 15; refine (put_off _ _ _ hO).mono ?_; rintro e w' ⟨rfl, rfl⟩) | (go_at_call 19; refine (room_off _ _ hO).mono ?_; rintro e w' ⟨rfl, rfl⟩))
  rw [rounds_succ]
  go_wp2_with (go_at_call 8; refine (awake _).mono ?_; rintro e w1 ⟨rfl, hb⟩)
  go_ret
  exact ⟨rfl, hb0.trans hb (by simp)⟩
theorem ringNil_walk (w : World) (v : Value) (xs : List Value) (hs : Sees w v xs) (hb : IsBytes xs) (hl : xs.length ≤ 140737488351232) :
    Calls Try.prog 4 #[v] w fun e w' => e = .returned (.bool true) ∧ Below w.heap.size w w' := by
  obtain ⟨a, c, rfl, _⟩ := sees_shape hs
  exact (ringNil a _ c w).mono fun _ _ ⟨he, hb⟩ => ⟨he, hb.below (Nat.le_refl _) (by simp)⟩
end Go.Proofs.Ytlajffbjkgedhaa.M
