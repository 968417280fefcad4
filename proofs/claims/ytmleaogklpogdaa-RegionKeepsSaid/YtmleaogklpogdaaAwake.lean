/-
  The chapter's examples hold.
-/
import Derived.Test.YtmleaogklpogdaaMemS
import Derived.Test.YtmleaogklpogdaaKit
import Derived.Lib.SlBytesConst
namespace Go.Proofs.Ytmleaogklpogdaa.M
open Go.RowKit
set_option linter.unusedVariables false
set_option linter.unusedSectionVars false
set_option linter.unusedSimpArgs false
def Z4 : List Value := [.int .u8 0, .int .u8 0, .int .u8 0, .int .u8 0]
theorem z4_bytes : Bytes Z4 := by intro u hu; simp [Z4] at hu; exact ⟨0, hu⟩
set_option maxHeartbeats 2000000 in
theorem awake (w : World) : Calls Try.prog 11 #[] w fun e w' => e = .returned (.bool true) ∧ But [] w w' := by
  have hmk : ∀ w, (Instr.makeSlice 33 (.int .i64 4) (.int .i64 4)).run Try.prog w = .ok (.slice (some ⟨w.heap.size, 0, none⟩) 4 4) (w.alloc (.cells #[.int .u8 0, .int .u8 0, .int .u8 0, .int .u8 0] 5)) := fun _ => by kernel_rfl
  have kc := fun (w : World) (C : Array Value) (n c : Nat) => Lib.run_convert_bytes_const (P := Try.prog) w 33 5 C n c Try.underlying33 Try.underlying5
  have hM0 := mem_new w w.heap.size (Nat.le_refl _)
  have hb0 : But [] w ((w.alloc (.map #[] 0)).alloc (.cells #[.map (some w.heap.size), .int .i64 0] tM)) := ((But.refl [] w).alloc _).alloc _
  go_enter Try.func11, Try.ntmps11
  go_wp2_with fail
  refine (new _).mono ?_
  rintro e w1 ⟨rfl, hw1⟩
  have hM1 : Mem w1 w.heap.size (w.heap.size + 1) w.heap.size 0 [] := by rw [hw1]; exact hM0
  have hb1 : But [] w w1 := by rw [hw1]; exact hb0
  have hz1 : w.heap.size + 2 ≤ w1.heap.size := by rw [hw1, size_alloc, size_alloc]; omega
  clear hw1 hM0 hb0
  go_wp2_with fail
  refine (make_at 1 2 _ 4 4 Z4 (hM1.new ((But.refl [] w1).alloc _)) (by omega) (by omega) (sees_new w1 _ _ _ 4 4 rfl (Nat.le_refl _)) z4_bytes rfl (by decide) (by decide) (by rw [size_alloc]; omega)).mono ?_
  rintro e w2 ⟨rfl, hb2, c, sl, hM2⟩
  have hz2 := hb2.size
  rw [size_alloc] at hz2
  have hbt2 : But [] w w2 := (hb1.alloc _).trans hb2 (by simp)
  clear hb2 hb1
  go_wp2_with fail
  refine (write_at (p := ⟨1, c, 2, sl, Z4⟩) 1 2 2 _ 2 2 [.int .u8 97, .int .u8 98] (hM2.new ((But.refl [] w2).alloc _)) (by simp) rfl rfl (sees_new w2 _ _ _ 2 2 rfl (Nat.le_refl _)) (by intro u hu; simp at hu; rcases hu with rfl | rfl <;> exact ⟨_, rfl⟩) rfl (by show 2 + 2 ≤ 4; omega)).mono ?_
  rintro e w3 ⟨rfl, hM3, L, hb3, hL⟩
  have hM3' : Mem w3 w.heap.size (w.heap.size + 1) w.heap.size 1 [⟨1, c, 2, sl, [.int .u8 0, .int .u8 0, .int .u8 97, .int .u8 98]⟩] := hM3
  have hbt3 : But [] w w3 := (hbt2.alloc _).trans hb3 (fun x hx => .inr (hM2.low x (mem_row (p := ⟨1, c, 2, sl, Z4⟩) (by simp) (hL x hx))))
  have hz3 := hb3.size
  rw [size_alloc] at hz3
  clear hM2 hM3 hb3 hL hbt2
  go_wp2_with fail
  refine (read_at 1 1 3 1 3 hM3' (List.mem_singleton.2 rfl) rfl rfl rfl (by show 1 + 3 ≤ 4; omega)).mono ?_
  rintro e w4 ⟨v, rfl, ho4, hn4, hb4⟩
  obtain ⟨a4, m4, cap4, rfl⟩ := own_shape ho4
  have hM4 := hM3'.new hb4
  have hz4 := hb4.size
  have hbt4 : But [] w w4 := hbt3.trans hb4 (by simp)
  clear hM3' hbt3 hb4
  go_wp2_with fail
  refine (read_out 1 2 3 hM4 (List.mem_singleton.2 rfl) rfl ⟨by omega, by omega⟩ ⟨by omega, by omega⟩ (by show Has 2 3 4 = false; decide)).mono ?_
  rintro e w5 ⟨rfl, hb5⟩
  have hM5 := hM4.new hb5
  have ho5 := ho4.but hb5 (by simp)
  have hz5 := hb5.size
  have hbt5 : But [] w w5 := hbt4.trans hb5 (by simp)
  clear hM4 hbt4 hb5 ho4
  go_wp2_with fail
  refine (free_at 1 hM5 (List.mem_singleton.2 rfl) rfl).mono ?_
  rintro e w6 ⟨rfl, hb6, hM6⟩
  have hM6' : Mem w6 w.heap.size (w.heap.size + 1) w.heap.size 1 [] := hM6
  have ho6 := ho5.but hb6 (by intro k hk; have := hn4 k hk; simp; omega)
  have hz6 := hb6.size
  have hbt6 : But [] w w6 := hbt5.trans hb6 (by simp)
  clear hM5 hM6 hbt5 hb6 ho5
  go_wp2_with fail
  refine (read_none _ _ _ _ 1 0 0 [] _ hM6' (wf_of (by omega) (by omega)) (by simp)).mono ?_
  rintro e w7 ⟨rfl, hb7⟩
  have hM7 := hM6'.new hb7
  have ho7 := ho6.but hb7 (by simp)
  have hz7 := hb7.size
  have hbt7 : But [] w w7 := hbt6.trans hb7 (by simp)
  clear hM6' hbt6 hb7 ho6
  go_wp2_with fail
  refine (make_at 2 1 none 0 0 [] hM7 (by omega) (by omega) (.inl ⟨rfl, rfl⟩) (by intro u hu; cases hu) rfl (by decide) (by decide) (by omega)).mono ?_
  rintro e w8 ⟨rfl, hb8, c8, sl8, hM8⟩
  have ho8 := ho7.but hb8 (by intro k hk; have := hn4 k hk; simp; omega)
  have hbt8 : But [] w w8 := hbt7.trans hb8 (by simp)
  clear hM7 hM8 hbt7 hb8 ho7 hn4 hz1 hz2 hz3 hz4 hz5 hz6 hz7
  go_wp2_with fail
  refine (same _ _ [0, 97, 98] [0, 97, 98] _ (ho8.sees.but ((But.refl [] w8).alloc _) (by simp)) (sees_new w8 _ _ _ 3 3 rfl (Nat.le_refl _)) (by decide)).mono ?_
  rintro e w9 ⟨rfl, hb9⟩
  have hbt9 : But [] w w9 := (hbt8.alloc _).trans hb9 (by simp)
  clear hbt8 hb9 ho8
  go_wp2_with fail
  go_ret
  exact ⟨rfl, hbt9⟩
end Go.Proofs.Ytmleaogklpogdaa.M
