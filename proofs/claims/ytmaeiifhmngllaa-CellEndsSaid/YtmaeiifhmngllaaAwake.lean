/-
  The chapter's example holds.
-/
import Derived.Test.YtmaeiifhmngllaaAwakeA
namespace Go.Proofs.Ytmaeiifhmngllaa.M
open Go.RowKit
set_option linter.unusedVariables false
set_option linter.unusedSectionVars false
set_option linter.unusedSimpArgs false
def S1 : Stk := storeS S0 0 8 ⟨2, 0, 3, 4⟩
def S2 : Stk := storeS S1 2 1 ⟨1, 7, 0, 0⟩
theorem s1_e : storeE 0 8 ⟨2, 0, 3, 4⟩ = 0 := by decide +kernel
theorem s2_e : storeE 2 1 ⟨1, 7, 0, 0⟩ = 0 := by decide +kernel
theorem s2_le : loadE S2 2 1 = 0 := by decide +kernel
theorem s2_lv : loadV S2 2 1 = ⟨1, 7, 0, 0⟩ := by decide +kernel
theorem s2_re : loadE S2 0 8 = 30 := by decide +kernel
theorem s2_rv : loadV S2 0 8 = c0 := by decide +kernel
set_option maxRecDepth 100000 in
set_option maxHeartbeats 4000000 in
theorem awake (w : World) : Calls Try.prog 8 #[] w fun e w' => e = .returned (.bool true) ∧ But [] w w' := by
  go_enter Try.func8, Try.ntmps8
  go_wp2_with fail
  refine (new_c w).mono ?_
  rintro e w1 ⟨rfl, hB, hb1⟩
  obtain ⟨Q, hQ⟩ : ∃ Q, Q = w.heap.size := ⟨_, rfl⟩
  rw [← hQ] at hB ⊢
  have HS := Lib.hid (Store_c Q S0 0 8 ⟨2, 0, 3, 4⟩ w1 rfl hB)
  have HQ := Lib.hid hQ
  have HB1 := Lib.hid hb1
  clear hB hb1 hQ
  go_wp2_with fail
  refine HS.out.mono ?_
  rintro e w2 ⟨rfl, hB, hb2⟩
  rw [s1_e]
  have HB2 := Lib.hid (HB1.out.trans hb2 (by simp only [List.mem_singleton]; rintro x rfl; exact .inr (Nat.le_of_eq HQ.out.symm)))
  have HBL := Lib.hid hB
  clear hB hb2 HS HB1
  go_wp2_with fail
  refine (word_c 7 _).mono ?_
  rintro e w3 ⟨rfl, hb3⟩
  have HS := Lib.hid (Store_c Q S1 2 1 ⟨1, 7, 0, 0⟩ w3 rfl (HBL.out.but hb3 (by simp)))
  have HB3 := Lib.hid (HB2.out.trans hb3 (by simp))
  clear hb3 HBL HB2
  go_wp2_with fail
  refine HS.out.mono ?_
  rintro e w4 ⟨rfl, hB, hb4⟩
  rw [s2_e]
  have HB4 := Lib.hid (HB3.out.trans hb4 (by simp only [List.mem_singleton]; rintro x rfl; exact .inr (Nat.le_of_eq HQ.out.symm)))
  have HI := Lib.hid (store_inv (store_inv s0_inv 0 8 ⟨2, 0, 3, 4⟩) 2 1 ⟨1, 7, 0, 0⟩)
  have HL := Lib.hid (Load_c Q S2 2 1 w4 HI.out hB)
  have HBL := Lib.hid hB
  clear hB hb4 HS HB3
  go_wp2_with fail
  refine HL.out.mono ?_
  rintro e w5 ⟨rfl, hb5⟩
  rw [s2_lv, s2_le]
  have HB5 := Lib.hid (HB4.out.trans hb5 (by simp))
  have HBL5 : Hid (Blk w5 Q 57 833 (S2.val true)) := Lib.hid (HBL.out.but hb5 (by simp))
  clear hb5 HL HBL HB4
  unfold CV.agg
  go_wp2_with fail
  obtain ⟨w6, hw6⟩ : ∃ w6, w6 = w5.alloc (.cells #[.int .u8 1, .int .u64 7, .int .i64 0, .int .i64 0] 33) := ⟨_, rfl⟩
  rw [← hw6]
  have HC6 : Hid (w6.heap[w5.heap.size]? = some (.cells #[.int .u8 1, .int .u64 7, .int .i64 0, .int .i64 0] 33)) := Lib.hid (by rw [hw6]; exact al_at _ _)
  have hb6 : But [] w5 w6 := by rw [hw6]; exact (But.refl _ _).alloc _
  have HB6 := Lib.hid (HB5.out.trans hb6 (by simp))
  have HL := Lib.hid (Load_c Q S2 0 8 w6 HI.out (HBL5.out.but hb6 (by simp)))
  clear hw6 hb6 HB5 HBL5
  go_wp2_with fail
  refine HL.out.mono ?_
  rintro e w7 ⟨rfl, hb7⟩
  rw [s2_rv, s2_re]
  have HB7 := Lib.hid (HB6.out.trans hb7 (by simp))
  have HC7 := Lib.hid (hb7.heap HC6.out (by simp))
  clear hb7 HL HB6 HC6
  unfold CV.agg
  go_wp2_with fail
  refine aw6 _ (Lib.hid (al_keep HC7.out _)) ?_
  intro z25 z26 z27 z28 z29 z30 z31 z32 z33 z34 z35 z36 z37 z38 z39 z40 z41 z42 z43 w9 hb9
  have HB9 := Lib.hid ((HB7.out.alloc _).trans hb9 (by simp))
  clear hb9
  go_wp2_with fail
  go_ret
  exact ⟨rfl, HB9.out⟩
end Go.Proofs.Ytmaeiifhmngllaa.M
