/-
  hatchwayref06.Spec at any make.
-/
import Derived.Test.YtpoinhfkgnkedaaSpecSp
import Derived.Test.YtpoinhfkgnkedaaProg
import Derived.WalkKit
namespace Go.Proofs.Ytpoinhfkgnkedaa.M
open Go.RowKit
set_option linter.unusedVariables false
set_option linter.unusedSectionVars false
set_option linter.unusedSimpArgs false
theorem withinB (lo hi n : Int) (w : World) :
    Calls Try.prog 63 #[.int .i64 n, .int .i64 lo, .int .i64 hi] w fun e w' => e = .returned (.bool (inB lo hi n)) ∧ w = w' := by
  by_cases h1 : lo ≤ n
  · by_cases h2 : n ≤ hi
    · have hb : inB lo hi n = true := by simp [inB, h1, h2]
      rw [hb]
      clear hb
      go_enter Try.func63, Try.ntmps63
      go_wp2
      go_ret
      exact ⟨rfl, rfl⟩
    · have hb : inB lo hi n = false := by simp [inB, h2]
      rw [hb]
      clear hb
      go_enter Try.func63, Try.ntmps63
      go_wp2
      go_ret
      exact ⟨rfl, rfl⟩
  · have hb : inB lo hi n = false := by simp [inB, h1]
    rw [hb]
    clear hb
    go_enter Try.func63, Try.ntmps63
    go_wp2
    go_ret
    exact ⟨rfl, rfl⟩
theorem withinBB (lo hi n : Int) (b : Bool) (w : World) (h : inB lo hi n = b) :
    Calls Try.prog 63 #[.int .i64 n, .int .i64 lo, .int .i64 hi] w fun e w' => e = .returned (.bool b) ∧ w = w' := by
  subst h; exact withinB lo hi n w
set_option maxRecDepth 100000 in
set_option maxHeartbeats 4000000 in
theorem refSpec1 (key val ent : Int) (w : World) : Calls Try.prog 49 #[.agg #[.int .u8 1, .int .i64 key, .int .i64 val, .int .i64 ent]] w fun e w' => e = .returned (.int .i64 (specE 1 key val ent)) ∧ But [] w w' := by
  have hs : specE 1 key val ent = (if inB 4 4 key && inB 1 1024 val && inB 1 1024 ent then 0 else 2) := rfl
  rw [hs]
  clear hs
  try simp only [inB_one]
  obtain ⟨p1, hp1⟩ : ∃ b, (key == 4) = b := ⟨_, rfl⟩
  obtain ⟨p2, hp2⟩ : ∃ b, (inB 1 1024 val) = b := ⟨_, rfl⟩
  obtain ⟨p3, hp3⟩ : ∃ b, (inB 1 1024 ent) = b := ⟨_, rfl⟩
  rw [hp1, hp2, hp3]
  cases p1 <;> cases p2 <;> cases p3
  all_goals
    go_enter Try.func49, Try.ntmps49
    go_wp2_with (go_at_call 63; refine (withinB _ _ _ _).mono ?_; rintro e w1 ⟨rfl, rfl⟩)
    go_ret
    exact ⟨rfl, (But.refl _ _).alloc _⟩
set_option maxRecDepth 100000 in
set_option maxHeartbeats 4000000 in
theorem refSpec2 (key val ent : Int) (w : World) : Calls Try.prog 49 #[.agg #[.int .u8 2, .int .i64 key, .int .i64 val, .int .i64 ent]] w fun e w' => e = .returned (.int .i64 (specE 2 key val ent)) ∧ But [] w w' := by
  have hs : specE 2 key val ent = (if inB 1 64 key && inB 1 1024 val && inB 1 1024 ent then 0 else 2) := rfl
  rw [hs]
  clear hs
  try simp only [inB_one]
  obtain ⟨p1, hp1⟩ : ∃ b, (inB 1 64 key) = b := ⟨_, rfl⟩
  obtain ⟨p2, hp2⟩ : ∃ b, (inB 1 1024 val) = b := ⟨_, rfl⟩
  obtain ⟨p3, hp3⟩ : ∃ b, (inB 1 1024 ent) = b := ⟨_, rfl⟩
  rw [hp1, hp2, hp3]
  cases p1 <;> cases p2 <;> cases p3
  all_goals
    go_enter Try.func49, Try.ntmps49
    go_wp2_with (go_at_call 63; refine (withinB _ _ _ _).mono ?_; rintro e w1 ⟨rfl, rfl⟩)
    go_ret
    exact ⟨rfl, (But.refl _ _).alloc _⟩
set_option maxRecDepth 100000 in
set_option maxHeartbeats 4000000 in
theorem refSpec3 (key val ent : Int) (w : World) : Calls Try.prog 49 #[.agg #[.int .u8 3, .int .i64 key, .int .i64 val, .int .i64 ent]] w fun e w' => e = .returned (.int .i64 (specE 3 key val ent)) ∧ But [] w w' := by
  have hs : specE 3 key val ent = (if inB 1 64 key && inB 1 1024 val && inB 1 1024 ent then 0 else 2) := rfl
  rw [hs]
  clear hs
  try simp only [inB_one]
  obtain ⟨p1, hp1⟩ : ∃ b, (inB 1 64 key) = b := ⟨_, rfl⟩
  obtain ⟨p2, hp2⟩ : ∃ b, (inB 1 1024 val) = b := ⟨_, rfl⟩
  obtain ⟨p3, hp3⟩ : ∃ b, (inB 1 1024 ent) = b := ⟨_, rfl⟩
  rw [hp1, hp2, hp3]
  cases p1 <;> cases p2 <;> cases p3
  all_goals
    go_enter Try.func49, Try.ntmps49
    go_wp2_with (go_at_call 63; refine (withinB _ _ _ _).mono ?_; rintro e w1 ⟨rfl, rfl⟩)
    go_ret
    exact ⟨rfl, (But.refl _ _).alloc _⟩
set_option maxRecDepth 100000 in
set_option maxHeartbeats 4000000 in
theorem refSpec4 (key val ent : Int) (w : World) : Calls Try.prog 49 #[.agg #[.int .u8 4, .int .i64 key, .int .i64 val, .int .i64 ent]] w fun e w' => e = .returned (.int .i64 (specE 4 key val ent)) ∧ But [] w w' := by
  have hs : specE 4 key val ent = (if inB 5 36 key && inB 1 1024 val && inB 1 1024 ent then 0 else 2) := rfl
  rw [hs]
  clear hs
  try simp only [inB_one]
  obtain ⟨p1, hp1⟩ : ∃ b, (inB 5 36 key) = b := ⟨_, rfl⟩
  obtain ⟨p2, hp2⟩ : ∃ b, (inB 1 1024 val) = b := ⟨_, rfl⟩
  obtain ⟨p3, hp3⟩ : ∃ b, (inB 1 1024 ent) = b := ⟨_, rfl⟩
  rw [hp1, hp2, hp3]
  cases p1 <;> cases p2 <;> cases p3
  all_goals
    go_enter Try.func49, Try.ntmps49
    go_wp2_with (go_at_call 63; refine (withinB _ _ _ _).mono ?_; rintro e w1 ⟨rfl, rfl⟩)
    go_ret
    exact ⟨rfl, (But.refl _ _).alloc _⟩
set_option maxRecDepth 100000 in
set_option maxHeartbeats 4000000 in
theorem refSpec5 (key val ent : Int) (w : World) : Calls Try.prog 49 #[.agg #[.int .u8 5, .int .i64 key, .int .i64 val, .int .i64 ent]] w fun e w' => e = .returned (.int .i64 (specE 5 key val ent)) ∧ But [] w w' := by
  have hs : specE 5 key val ent = (if inB 0 0 key && inB 1 1024 val && inB 1 1024 ent then 0 else 2) := rfl
  rw [hs]
  clear hs
  try simp only [inB_one]
  obtain ⟨p1, hp1⟩ : ∃ b, (key == 0) = b := ⟨_, rfl⟩
  obtain ⟨p2, hp2⟩ : ∃ b, (inB 1 1024 val) = b := ⟨_, rfl⟩
  obtain ⟨p3, hp3⟩ : ∃ b, (inB 1 1024 ent) = b := ⟨_, rfl⟩
  rw [hp1, hp2, hp3]
  cases p1 <;> cases p2 <;> cases p3
  all_goals
    go_enter Try.func49, Try.ntmps49
    go_wp2_with (go_at_call 63; refine (withinB _ _ _ _).mono ?_; rintro e w1 ⟨rfl, rfl⟩)
    go_ret
    exact ⟨rfl, (But.refl _ _).alloc _⟩
set_option maxRecDepth 100000 in
set_option maxHeartbeats 4000000 in
theorem refSpec6 (key val ent : Int) (w : World) : Calls Try.prog 49 #[.agg #[.int .u8 6, .int .i64 key, .int .i64 val, .int .i64 ent]] w fun e w' => e = .returned (.int .i64 (specE 6 key val ent)) ∧ But [] w w' := by
  have hs : specE 6 key val ent = (if inB 0 0 key && inB 1 1024 val && inB 1 1024 ent then 0 else 2) := rfl
  rw [hs]
  clear hs
  try simp only [inB_one]
  obtain ⟨p1, hp1⟩ : ∃ b, (key == 0) = b := ⟨_, rfl⟩
  obtain ⟨p2, hp2⟩ : ∃ b, (inB 1 1024 val) = b := ⟨_, rfl⟩
  obtain ⟨p3, hp3⟩ : ∃ b, (inB 1 1024 ent) = b := ⟨_, rfl⟩
  rw [hp1, hp2, hp3]
  cases p1 <;> cases p2 <;> cases p3
  all_goals
    go_enter Try.func49, Try.ntmps49
    go_wp2_with (go_at_call 63; refine (withinB _ _ _ _).mono ?_; rintro e w1 ⟨rfl, rfl⟩)
    go_ret
    exact ⟨rfl, (But.refl _ _).alloc _⟩
set_option maxRecDepth 100000 in
set_option maxHeartbeats 4000000 in
theorem refSpec7 (key val ent : Int) (w : World) : Calls Try.prog 49 #[.agg #[.int .u8 7, .int .i64 key, .int .i64 val, .int .i64 ent]] w fun e w' => e = .returned (.int .i64 (specE 7 key val ent)) ∧ But [] w w' := by
  have hs : specE 7 key val ent = (if inB 0 0 key && inB 0 0 val && inB 16 16384 ent then 0 else 2) := rfl
  rw [hs]
  clear hs
  try simp only [inB_one]
  obtain ⟨p1, hp1⟩ : ∃ b, (key == 0) = b := ⟨_, rfl⟩
  obtain ⟨p2, hp2⟩ : ∃ b, (val == 0) = b := ⟨_, rfl⟩
  obtain ⟨p3, hp3⟩ : ∃ b, (inB 16 16384 ent) = b := ⟨_, rfl⟩
  obtain ⟨p4, hp4⟩ : ∃ b, (inB 1 1024 val) = b := ⟨_, rfl⟩
  obtain ⟨p5, hp5⟩ : ∃ b, (inB 1 1024 ent) = b := ⟨_, rfl⟩
  rw [hp1, hp2, hp3]
  cases p1 <;> cases p2 <;> cases p3 <;> cases p4 <;> cases p5
  all_goals
    go_enter Try.func49, Try.ntmps49
    go_wp2_with (go_at_call 63; refine (withinB _ _ _ _).mono ?_; rintro e w1 ⟨rfl, rfl⟩)
    go_ret
    exact ⟨rfl, (But.refl _ _).alloc _⟩
set_option maxRecDepth 100000 in
set_option maxHeartbeats 4000000 in
theorem refSpec8 (key val ent : Int) (w : World) : Calls Try.prog 49 #[.agg #[.int .u8 8, .int .i64 key, .int .i64 val, .int .i64 ent]] w fun e w' => e = .returned (.int .i64 (specE 8 key val ent)) ∧ But [] w w' := by
  have hs : specE 8 key val ent = (if inB 4 4 key && inB 8 8 val && inB 1 64 ent then 0 else 2) := rfl
  rw [hs]
  clear hs
  try simp only [inB_one]
  obtain ⟨p1, hp1⟩ : ∃ b, (key == 4) = b := ⟨_, rfl⟩
  obtain ⟨p2, hp2⟩ : ∃ b, (val == 8) = b := ⟨_, rfl⟩
  obtain ⟨p3, hp3⟩ : ∃ b, (inB 1 64 ent) = b := ⟨_, rfl⟩
  obtain ⟨p4, hp4⟩ : ∃ b, (inB 1 1024 val) = b := ⟨_, rfl⟩
  obtain ⟨p5, hp5⟩ : ∃ b, (inB 1 1024 ent) = b := ⟨_, rfl⟩
  rw [hp1, hp2, hp3]
  cases p1 <;> cases p2 <;> cases p3 <;> cases p4 <;> cases p5
  all_goals
    go_enter Try.func49, Try.ntmps49
    go_wp2_with (go_at_call 63; refine (withinB _ _ _ _).mono ?_; rintro e w1 ⟨rfl, rfl⟩)
    go_ret
    exact ⟨rfl, (But.refl _ _).alloc _⟩
set_option maxRecDepth 100000 in
set_option maxHeartbeats 4000000 in
theorem refSpec0 (k key val ent : Int) (w : World) (h : ¬ (1 ≤ k ∧ k ≤ 8)) : Calls Try.prog 49 #[.agg #[.int .u8 k, .int .i64 key, .int .i64 val, .int .i64 ent]] w fun e w' => e = .returned (.int .i64 (specE k key val ent)) ∧ But [] w w' := by
  have hs : specE k key val ent = 9 := by simp [specE, rowB_none h]
  rw [hs]
  clear hs
  have k1 : (k == 1) = false := by simp; omega
  have k2 : (k == 2) = false := by simp; omega
  have k3 : (k == 3) = false := by simp; omega
  have k4 : (k == 4) = false := by simp; omega
  have k5 : (k == 5) = false := by simp; omega
  have k6 : (k == 6) = false := by simp; omega
  have k7 : (k == 7) = false := by simp; omega
  have k8 : (k == 8) = false := by simp; omega
  obtain ⟨p1, hp1⟩ : ∃ b, inB 1 1024 val = b := ⟨_, rfl⟩
  obtain ⟨p2, hp2⟩ : ∃ b, inB 1 1024 ent = b := ⟨_, rfl⟩
  clear h
  cases p1 <;> cases p2
  all_goals
    go_enter Try.func49, Try.ntmps49
    go_wp2_with (go_at_call 63; refine (withinB _ _ _ _).mono ?_; rintro e w1 ⟨rfl, rfl⟩)
    go_ret
    exact ⟨rfl, (But.refl _ _).alloc _⟩
/-- hatchwayref06.Spec, at any make. -/
theorem refSpec (k key val ent : Int) (w : World) : Calls Try.prog 49 #[.agg #[.int .u8 k, .int .i64 key, .int .i64 val, .int .i64 ent]] w fun e w' => e = .returned (.int .i64 (specE k key val ent)) ∧ But [] w w' := by
  by_cases h : 1 ≤ k ∧ k ≤ 8
  · rcases kinds_of h with rfl | rfl | rfl | rfl | rfl | rfl | rfl | rfl
    · exact refSpec1 key val ent w
    · exact refSpec2 key val ent w
    · exact refSpec3 key val ent w
    · exact refSpec4 key val ent w
    · exact refSpec5 key val ent w
    · exact refSpec6 key val ent w
    · exact refSpec7 key val ent w
    · exact refSpec8 key val ent w
  · exact refSpec0 k key val ent w h
end Go.Proofs.Ytpoinhfkgnkedaa.M
