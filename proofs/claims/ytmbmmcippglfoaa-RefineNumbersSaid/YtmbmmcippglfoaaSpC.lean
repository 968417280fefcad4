/-
  span.Const, Has, Meet.
-/
import Derived.Test.YtmbmmcippglfoaaSpB
namespace Go.Proofs.Ytmbmmcippglfoaa.M
open Go.RowKit Go.Shelf
set_option linter.unusedVariables false
set_option linter.unusedSectionVars false
set_option linter.unusedSimpArgs false
set_option maxHeartbeats 2000000 in
theorem spConst_c (x : Nat) (w : World) : Calls Try.prog 41 #[.int .u64 x] w fun e w' => e = .returned (.agg #[.int .u64 x, .int .u64 x, .int .i64 (toS x), .int .i64 (toS x)]) ∧ But [] w w' := by
  go_enter Try.func41, Try.ntmps41
  go_wp2
  exact bodyPost_ret (v := .agg #[.int .u64 x, .int .u64 x, .int .i64 (toS x), .int .i64 (toS x)]) (by simp [results, Try.results41, go_sem, toS] <;> (rw [IntKind.wrap_i64, wrap64]; first | done | omega)) rfl ⟨rfl, by repeat (first | exact But.refl _ _ | refine But.alloc ?_ _ | refine But.setCell ?_ (.inr (by simp)) _)⟩
set_option maxHeartbeats 4000000 in
theorem spHas_c (lo hi : Nat) (sl sh : Int) (x : Nat) (w : World) : Calls Try.prog 32 #[.agg #[.int .u64 lo, .int .u64 hi, .int .i64 sl, .int .i64 sh], .int .u64 x] w fun e w' => e = .returned (.bool (spLeq (wordS x).s ⟨lo, hi, sl, sh⟩)) ∧ But [] w w' := by
  have HL := Lib.hid (fun w => spLeq_c x x lo hi (toS x) (toS x) sl sh w)
  have HC := Lib.hid (fun w => spConst_c x w)
  obtain ⟨y, hy⟩ : ∃ y, y = toS x := ⟨_, rfl⟩
  rw [← hy] at HC HL
  have HY := Lib.hid hy
  clear hy
  have HK : Hid (∀ wx, But [] (w.alloc (.cells #[.int .u64 lo, .int .u64 hi, .int .i64 sl, .int .i64 sh] 26)) wx → wx.cell? ⟨w.heap.size, 0, none⟩ = some (.int .u64 lo) ∧ wx.cell? ⟨w.heap.size, 1, none⟩ = some (.int .u64 hi) ∧ wx.cell? ⟨w.heap.size, 2, none⟩ = some (.int .i64 sl) ∧ wx.cell? ⟨w.heap.size, 3, none⟩ = some (.int .i64 sh)) := Lib.hid (fun wx hb => by
    have h1 := hb.heap (al_at w _) (by simp)
    exact ⟨cl_of h1 0, cl_of h1 1, cl_of h1 2, cl_of h1 3⟩)
  go_enter Try.func32, Try.ntmps32
  go_wp2_with fail
  go_region_held3 (fun wx => wx.cell? ⟨w.heap.size, 0, none⟩ = some (.int .u64 lo) ∧ wx.cell? ⟨w.heap.size, 1, none⟩ = some (.int .u64 hi) ∧ wx.cell? ⟨w.heap.size, 2, none⟩ = some (.int .i64 sl) ∧ wx.cell? ⟨w.heap.size, 3, none⟩ = some (.int .i64 sh)) (exact HK.out _ (by repeat (first | exact But.refl _ _ | exact HB9.out | exact HB8.out | refine But.drew ?_ | refine But.alloc ?_ _))) (first | (go_at_call 41; refine (HC.out _).mono ?_; rintro e w8 ⟨rfl, hb8⟩; have HB8 : Hid (But [] (w.alloc (.cells #[.int .u64 lo, .int .u64 hi, .int .i64 sl, .int .i64 sh] 26)) w8) := Lib.hid ((by repeat (first | exact But.refl _ _ | refine But.drew ?_ | refine But.alloc ?_ _) : But [] (w.alloc (.cells #[.int .u64 lo, .int .u64 hi, .int .i64 sl, .int .i64 sh] 26)) _).trans hb8 (by simp)); clear hb8; have hk8 := HK.out w8 HB8.out) | (go_at_call 29; refine (HL.out _).mono ?_; rintro e w9 ⟨rfl, hb9⟩; have HB9 : Hid (But [] (w.alloc (.cells #[.int .u64 lo, .int .u64 hi, .int .i64 sl, .int .i64 sh] 26)) w9) := Lib.hid ((by repeat (first | exact But.refl _ _ | exact HB8.out | refine But.drew ?_ | refine But.alloc ?_ _) : But [] (w.alloc (.cells #[.int .u64 lo, .int .u64 hi, .int .i64 sl, .int .i64 sh] 26)) _).trans hb9 (by simp)); clear hb9; have hk9 := HK.out w9 HB9.out))
  all_goals (go_wp2_with fail)
  all_goals go_ret
  all_goals exact ⟨by unfold wordS; rw [← HY.out]; rfl, ((But.refl [] w).alloc _).trans (by repeat (first | exact But.refl _ _ | exact HB9.out | refine But.drew ?_ | refine But.alloc ?_ _)) (by simp)⟩
end Go.Proofs.Ytmbmmcippglfoaa.M

