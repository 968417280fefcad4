/-
  Const, Unknown of both; from: the words from one to another.
-/
import Derived.Test.YtmbmmcippglfoaaRfD
import Derived.Test.YtmbmmcippglfoaaSpC
namespace Go.Proofs.Ytmbmmcippglfoaa.M
open Go.RowKit Go.Shelf
set_option linter.unusedVariables false
set_option linter.unusedSectionVars false
set_option linter.unusedSimpArgs false

def unkS : Sc := ⟨⟨0, 18446744073709551615⟩, ⟨0, 18446744073709551615, -9223372036854775808, 9223372036854775807⟩⟩
def fromA (lo hi : Nat) : Sc := ⟨⟨0, 18446744073709551615⟩, ⟨lo, hi, toS lo, toS hi⟩⟩
set_option maxRecDepth 100000 in
set_option maxHeartbeats 4000000 in
theorem tnUnknown_c  (w : World) : Calls Try.prog 38 #[] w fun e w' => e = .returned (.agg #[.int .u64 0, .int .u64 18446744073709551615]) ∧ But [] w w' := by
  go_enter Try.func38, Try.ntmps38
  go_wp2_with fail
  exact bodyPost_ret (v := .agg #[.int .u64 0, .int .u64 18446744073709551615]) (by simp [results, Try.results38, go_sem]) rfl ⟨rfl, by repeat (first | with_reducible exact But.refl _ _ | with_reducible refine But.alloc ?_ _ | (with_reducible refine But.setCell ?_ (.inr ?_) _; rotate_left; (simp only []; omega)))⟩
set_option maxRecDepth 100000 in
set_option maxHeartbeats 4000000 in
theorem r17Unknown_c  (w : World) : Calls Try.prog 24 #[] w fun e w' => e = .returned (.agg #[.int .u64 0, .int .u64 18446744073709551615]) ∧ But [] w w' := by
  go_enter Try.func24, Try.ntmps24
  go_wp2_with fail
  exact bodyPost_ret (v := .agg #[.int .u64 0, .int .u64 18446744073709551615]) (by simp [results, Try.results24, go_sem]) rfl ⟨rfl, by repeat (first | with_reducible exact But.refl _ _ | with_reducible refine But.alloc ?_ _ | (with_reducible refine But.setCell ?_ (.inr ?_) _; rotate_left; (simp only []; omega)))⟩
set_option maxRecDepth 100000 in
set_option maxHeartbeats 4000000 in
theorem tnConst_c (x : Nat) (w : World) : Calls Try.prog 40 #[.int .u64 x] w fun e w' => e = .returned (.agg #[.int .u64 x, .int .u64 0]) ∧ But [] w w' := by
  go_enter Try.func40, Try.ntmps40
  go_wp2_with fail
  exact bodyPost_ret (v := .agg #[.int .u64 x, .int .u64 0]) (by simp [results, Try.results40, go_sem]) rfl ⟨rfl, by repeat (first | with_reducible exact But.refl _ _ | with_reducible refine But.alloc ?_ _ | (with_reducible refine But.setCell ?_ (.inr ?_) _; rotate_left; (simp only []; omega)))⟩
set_option maxRecDepth 100000 in
set_option maxHeartbeats 4000000 in
theorem r17Const_c (x : Nat) (w : World) : Calls Try.prog 22 #[.int .u64 x] w fun e w' => e = .returned (.agg #[.int .u64 x, .int .u64 0]) ∧ But [] w w' := by
  go_enter Try.func22, Try.ntmps22
  go_wp2_with fail
  exact bodyPost_ret (v := .agg #[.int .u64 x, .int .u64 0]) (by simp [results, Try.results22, go_sem]) rfl ⟨rfl, by repeat (first | with_reducible exact But.refl _ _ | with_reducible refine But.alloc ?_ _ | (with_reducible refine But.setCell ?_ (.inr ?_) _; rotate_left; (simp only []; omega)))⟩
set_option maxRecDepth 100000 in
set_option maxHeartbeats 4000000 in
theorem spAll_c  (w : World) : Calls Try.prog 75 #[] w fun e w' => e = .returned (.agg #[.int .u64 0, .int .u64 18446744073709551615, .int .i64 (-9223372036854775808), .int .i64 9223372036854775807]) ∧ But [] w w' := by
  go_enter Try.func75, Try.ntmps75
  go_wp2_with fail
  exact bodyPost_ret (v := .agg #[.int .u64 0, .int .u64 18446744073709551615, .int .i64 (-9223372036854775808), .int .i64 9223372036854775807]) (by simp [results, Try.results75, go_sem]) rfl ⟨rfl, by repeat (first | with_reducible exact But.refl _ _ | with_reducible refine But.alloc ?_ _ | (with_reducible refine But.setCell ?_ (.inr ?_) _; rotate_left; (simp only []; omega)))⟩
set_option maxRecDepth 100000 in
set_option maxHeartbeats 4000000 in
theorem spFull_c  (w : World) : Calls Try.prog 39 #[] w fun e w' => e = .returned (.agg #[.int .u64 0, .int .u64 18446744073709551615, .int .i64 (-9223372036854775808), .int .i64 9223372036854775807]) ∧ But [] w w' := by
  go_enter Try.func39, Try.ntmps39
  go_wp2_with fail
  refine (spAll_c _).mono ?_
  rintro e w8 ⟨rfl, hb8⟩
  have hR : w8.heap[w.heap.size]? = some (.cells #[.int .u64 0, .int .u64 0, .int .i64 0, .int .i64 0] 26) := hb8.heap (by repeat (first | (with_reducible refine al_eq _ _ _ ?_; (simp only [size_alloc]; done)) | with_reducible refine al_keep ?_ _ | with_reducible refine dr_keep ?_)) (by simp)
  obtain ⟨cR0, cR1, cR2, cR3⟩ := c4_of hR
  obtain ⟨fR0, fR1, fR2, fR3⟩ := f4_of hR
  have zR := lt_of hR
  have HB : Hid (But [] w w8) := Lib.hid ((by repeat (first | with_reducible exact But.refl _ _ | with_reducible refine But.drew ?_ | with_reducible refine But.alloc ?_ _) : But [] w _).trans hb8 (by simp))
  have HR := Lib.hid hR
  clear hR hb8
  go_wp2_with fail
  refine (toSpan_c 0 18446744073709551615 (-9223372036854775808) 9223372036854775807 _).mono ?_
  rintro e w9 ⟨rfl, hb9⟩
  have hR : w9.heap[w.heap.size]? = some (.cells #[.int .u64 0, .int .u64 0, .int .i64 0, .int .i64 0] 26) := hb9.heap (HR.out) (by simp)
  clear zR
  clear cR0 cR1 cR2 cR3
  clear fR0 fR1 fR2 fR3
  obtain ⟨cR0, cR1, cR2, cR3⟩ := c4_of hR
  obtain ⟨fR0, fR1, fR2, fR3⟩ := f4_of hR
  have zR := lt_of hR
  have HB : Hid (But [] w w9) := Lib.hid ((HB.out).trans hb9 (by simp))
  have HR := Lib.hid hR
  clear hR hb9
  go_wp2_with fail
  exact bodyPost_ret (v := .agg #[.int .u64 0, .int .u64 18446744073709551615, .int .i64 (-9223372036854775808), .int .i64 9223372036854775807]) (by simp [results, Try.results39, go_sem, cR0, cR1, cR2, cR3]) rfl ⟨rfl, by repeat (first | with_reducible exact HB.out | with_reducible refine But.alloc ?_ _ | (with_reducible refine But.setCell ?_ (.inr ?_) _; rotate_left; (simp only []; omega)))⟩
set_option maxRecDepth 100000 in
set_option maxHeartbeats 4000000 in
theorem scUnknown_c  (w : World) : Calls Try.prog 19 #[] w fun e w' => e = .returned (.agg #[.int .u64 0, .int .u64 18446744073709551615, .int .u64 0, .int .u64 18446744073709551615, .int .i64 (-9223372036854775808), .int .i64 9223372036854775807]) ∧ But [] w w' := by
  go_enter Try.func19, Try.ntmps19
  go_wp2_with fail
  refine (tnUnknown_c _).mono ?_
  rintro e w8 ⟨rfl, hb8⟩
  have hR : w8.heap[w.heap.size]? = some (.cells #[.int .u64 0, .int .u64 0, .int .u64 0, .int .u64 0, .int .i64 0, .int .i64 0] 28) := hb8.heap (by repeat (first | (with_reducible refine al_eq _ _ _ ?_; (simp only [size_alloc]; done)) | with_reducible refine al_keep ?_ _ | with_reducible refine dr_keep ?_)) (by simp)
  obtain ⟨cR0, cR1, cR2, cR3, cR4, cR5⟩ := c6_of hR
  obtain ⟨fR0, fR1, fR2, fR3, fR4, fR5⟩ := f6_of hR
  have zR := lt_of hR
  have HB : Hid (But [] w w8) := Lib.hid ((by repeat (first | with_reducible exact But.refl _ _ | with_reducible refine But.drew ?_ | with_reducible refine But.alloc ?_ _) : But [] w _).trans hb8 (by simp))
  have HR := Lib.hid hR
  clear hR hb8
  go_wp2_with fail
  refine (spFull_c _).mono ?_
  rintro e w9 ⟨rfl, hb9⟩
  have hR : w9.heap[w.heap.size]? = some (.cells #[.int .u64 0, .int .u64 0, .int .u64 0, .int .u64 0, .int .i64 0, .int .i64 0] 28) := hb9.heap (HR.out) (by simp)
  clear zR
  clear cR0 cR1 cR2 cR3 cR4 cR5
  clear fR0 fR1 fR2 fR3 fR4 fR5
  obtain ⟨cR0, cR1, cR2, cR3, cR4, cR5⟩ := c6_of hR
  obtain ⟨fR0, fR1, fR2, fR3, fR4, fR5⟩ := f6_of hR
  have zR := lt_of hR
  have HB : Hid (But [] w w9) := Lib.hid ((HB.out).trans hb9 (by simp))
  have HR := Lib.hid hR
  clear hR hb9
  go_wp2_with fail
  exact bodyPost_ret (v := .agg #[.int .u64 0, .int .u64 18446744073709551615, .int .u64 0, .int .u64 18446744073709551615, .int .i64 (-9223372036854775808), .int .i64 9223372036854775807]) (by simp [results, Try.results19, go_sem, cR0, cR1, cR2, cR3, cR4, cR5]) rfl ⟨rfl, by repeat (first | with_reducible exact HB.out | with_reducible refine But.alloc ?_ _ | (with_reducible refine But.setCell ?_ (.inr ?_) _; rotate_left; (simp only []; omega)))⟩
set_option maxRecDepth 100000 in
set_option maxHeartbeats 4000000 in
theorem r19Unknown_c  (w : World) : Calls Try.prog 11 #[] w fun e w' => e = .returned (.agg #[.int .u64 0, .int .u64 18446744073709551615, .int .u64 0, .int .u64 18446744073709551615, .int .i64 (-9223372036854775808), .int .i64 9223372036854775807]) ∧ But [] w w' := by
  go_enter Try.func11, Try.ntmps11
  go_wp2_with fail
  refine (r17Unknown_c _).mono ?_
  rintro e w8 ⟨rfl, hb8⟩
  have hR : w8.heap[w.heap.size]? = some (.cells #[.int .u64 0, .int .u64 0, .int .u64 0, .int .u64 0, .int .i64 0, .int .i64 0] 28) := hb8.heap (by repeat (first | (with_reducible refine al_eq _ _ _ ?_; (simp only [size_alloc]; done)) | with_reducible refine al_keep ?_ _ | with_reducible refine dr_keep ?_)) (by simp)
  obtain ⟨cR0, cR1, cR2, cR3, cR4, cR5⟩ := c6_of hR
  obtain ⟨fR0, fR1, fR2, fR3, fR4, fR5⟩ := f6_of hR
  have zR := lt_of hR
  have HB : Hid (But [] w w8) := Lib.hid ((by repeat (first | with_reducible exact But.refl _ _ | with_reducible refine But.drew ?_ | with_reducible refine But.alloc ?_ _) : But [] w _).trans hb8 (by simp))
  have HR := Lib.hid hR
  clear hR hb8
  go_wp2_with fail
  exact bodyPost_ret (v := .agg #[.int .u64 0, .int .u64 18446744073709551615, .int .u64 0, .int .u64 18446744073709551615, .int .i64 (-9223372036854775808), .int .i64 9223372036854775807]) (by simp [results, Try.results11, go_sem, cR0, cR1, cR2, cR3, cR4, cR5]) rfl ⟨rfl, by repeat (first | with_reducible exact HB.out | with_reducible refine But.alloc ?_ _ | (with_reducible refine But.setCell ?_ (.inr ?_) _; rotate_left; (simp only []; omega)))⟩
set_option maxRecDepth 100000 in
set_option maxHeartbeats 4000000 in
theorem scConst_c (x : Nat) (y : Int) (hy : toS x = y) (w : World) : Calls Try.prog 20 #[.int .u64 x] w fun e w' => e = .returned (.agg #[.int .u64 x, .int .u64 0, .int .u64 x, .int .u64 x, .int .i64 y, .int .i64 y]) ∧ But [] w w' := by
  have H1 := Lib.hid (fun w => spConst_c x w)
  rw [hy] at H1
  clear hy
  go_enter Try.func20, Try.ntmps20
  go_wp2_with fail
  refine (tnConst_c x _).mono ?_
  rintro e w8 ⟨rfl, hb8⟩
  have hR : w8.heap[w.heap.size]? = some (.cells #[.int .u64 0, .int .u64 0, .int .u64 0, .int .u64 0, .int .i64 0, .int .i64 0] 28) := hb8.heap (by repeat (first | (with_reducible refine al_eq _ _ _ ?_; (simp only [size_alloc]; done)) | with_reducible refine al_keep ?_ _ | with_reducible refine dr_keep ?_)) (by simp)
  obtain ⟨cR0, cR1, cR2, cR3, cR4, cR5⟩ := c6_of hR
  obtain ⟨fR0, fR1, fR2, fR3, fR4, fR5⟩ := f6_of hR
  have zR := lt_of hR
  have HB : Hid (But [] w w8) := Lib.hid ((by repeat (first | with_reducible exact But.refl _ _ | with_reducible refine But.drew ?_ | with_reducible refine But.alloc ?_ _) : But [] w _).trans hb8 (by simp))
  have HR := Lib.hid hR
  clear hR hb8
  go_wp2_with fail
  refine (H1.out _).mono ?_
  rintro e w9 ⟨rfl, hb9⟩
  have hR : w9.heap[w.heap.size]? = some (.cells #[.int .u64 0, .int .u64 0, .int .u64 0, .int .u64 0, .int .i64 0, .int .i64 0] 28) := hb9.heap (HR.out) (by simp)
  clear zR
  clear cR0 cR1 cR2 cR3 cR4 cR5
  clear fR0 fR1 fR2 fR3 fR4 fR5
  obtain ⟨cR0, cR1, cR2, cR3, cR4, cR5⟩ := c6_of hR
  obtain ⟨fR0, fR1, fR2, fR3, fR4, fR5⟩ := f6_of hR
  have zR := lt_of hR
  have HB : Hid (But [] w w9) := Lib.hid ((HB.out).trans hb9 (by simp))
  have HR := Lib.hid hR
  clear hR hb9
  go_wp2_with fail
  exact bodyPost_ret (v := .agg #[.int .u64 x, .int .u64 0, .int .u64 x, .int .u64 x, .int .i64 y, .int .i64 y]) (by simp [results, Try.results20, go_sem, cR0, cR1, cR2, cR3, cR4, cR5]) rfl ⟨rfl, by repeat (first | with_reducible exact HB.out | with_reducible refine But.alloc ?_ _ | (with_reducible refine But.setCell ?_ (.inr ?_) _; rotate_left; (simp only []; omega)))⟩
set_option maxRecDepth 100000 in
set_option maxHeartbeats 4000000 in
theorem r19Const_c (x : Nat) (y : Int) (hy : toS x = y) (w : World) : Calls Try.prog 9 #[.int .u64 x] w fun e w' => e = .returned (.agg #[.int .u64 x, .int .u64 0, .int .u64 x, .int .u64 x, .int .i64 y, .int .i64 y]) ∧ But [] w w' := by
  have hyw : IntKind.i64.wrap (x : Int) = y := hy
  have hyw2 : wrap64 (x : Int) = y := by rw [← hyw, IntKind.wrap_i64, wrap64]
  clear hy hyw
  go_enter Try.func9, Try.ntmps9
  go_wp2_with fail
  refine (r17Const_c x _).mono ?_
  rintro e w8 ⟨rfl, hb8⟩
  have hR : w8.heap[w.heap.size]? = some (.cells #[.int .u64 0, .int .u64 0, .int .u64 0, .int .u64 0, .int .i64 0, .int .i64 0] 28) := hb8.heap (by repeat (first | (with_reducible refine al_eq _ _ _ ?_; (simp only [size_alloc]; done)) | with_reducible refine al_keep ?_ _ | with_reducible refine dr_keep ?_)) (by simp)
  obtain ⟨cR0, cR1, cR2, cR3, cR4, cR5⟩ := c6_of hR
  obtain ⟨fR0, fR1, fR2, fR3, fR4, fR5⟩ := f6_of hR
  have zR := lt_of hR
  have HB : Hid (But [] w w8) := Lib.hid ((by repeat (first | with_reducible exact But.refl _ _ | with_reducible refine But.drew ?_ | with_reducible refine But.alloc ?_ _) : But [] w _).trans hb8 (by simp))
  have HR := Lib.hid hR
  clear hR hb8
  go_wp2_with fail
  exact bodyPost_ret (v := .agg #[.int .u64 x, .int .u64 0, .int .u64 x, .int .u64 x, .int .i64 y, .int .i64 y]) (by simp [results, Try.results9, go_sem, cR0, cR1, cR2, cR3, cR4, cR5]) rfl ⟨rfl, by repeat (first | with_reducible exact HB.out | with_reducible refine But.alloc ?_ _ | (with_reducible refine But.setCell ?_ (.inr ?_) _; rotate_left; (simp only []; omega)))⟩
set_option maxRecDepth 100000 in
set_option maxHeartbeats 4000000 in
theorem from_c (lo hi gv gm gl gh : Nat) (gi gj y z : Int) (gb : Bool) (h1 : toS lo = y) (h2 : toS hi = z) (hr : Rg ⟨⟨0, 18446744073709551615⟩, ⟨lo, hi, y, z⟩⟩) (hg : (ofT ⟨⟨0, 18446744073709551615⟩, ⟨lo, hi, y, z⟩⟩).getD zeroSc = ⟨⟨gv, gm⟩, ⟨gl, gh, gi, gj⟩⟩) (hb : (ofT ⟨⟨0, 18446744073709551615⟩, ⟨lo, hi, y, z⟩⟩).isSome = gb) (w : World) : Calls Try.prog 21 #[.int .u64 lo, .int .u64 hi] w fun e w' => e = .returned (.agg #[.int .u64 gv, .int .u64 gm, .int .u64 gl, .int .u64 gh, .int .i64 gi, .int .i64 gj]) ∧ But [] w w' := by
  have H1 := Lib.hid (fun w => r19Of_v 0 18446744073709551615 lo hi gv gm gl gh y z gi gj gb hr hg hb w)
  have k1 : wrap64 (lo : Int) = y := by rw [← h1]; unfold toS; rw [IntKind.wrap_i64, wrap64]
  have k2 : wrap64 (hi : Int) = z := by rw [← h2]; unfold toS; rw [IntKind.wrap_i64, wrap64]
  clear hr hg hb h1 h2
  go_enter Try.func21, Try.ntmps21
  go_wp2_with fail
  refine (H1.out _).mono ?_
  rintro e w8 ⟨rfl, hb8⟩
  have hR : w8.heap[w.heap.size]? = some (.cells #[.int .u64 0, .int .u64 0, .int .u64 0, .int .u64 0, .int .i64 0, .int .i64 0] 28) := hb8.heap (by repeat (first | (with_reducible refine al_eq _ _ _ ?_; (simp only [size_alloc]; done)) | with_reducible refine al_keep ?_ _ | with_reducible refine dr_keep ?_)) (by simp)
  obtain ⟨cR0, cR1, cR2, cR3, cR4, cR5⟩ := c6_of hR
  obtain ⟨fR0, fR1, fR2, fR3, fR4, fR5⟩ := f6_of hR
  have zR := lt_of hR
  have HB : Hid (But [] w w8) := Lib.hid ((by repeat (first | with_reducible exact But.refl _ _ | with_reducible refine But.drew ?_ | with_reducible refine But.alloc ?_ _) : But [] w _).trans hb8 (by simp))
  have HR := Lib.hid hR
  clear hR hb8
  go_upto_region 2 with (fail)
  generalize hw : World.alloc w8 _ = w9
  have hR : w9.heap[w.heap.size]? = some (.cells #[.int .u64 0, .int .u64 0, .int .u64 0, .int .u64 0, .int .i64 0, .int .i64 0] 28) := by rw [← hw]; exact al_keep HR.out _
  have hT : w9.heap[w8.heap.size]? = some (.cells #[.int .u64 gv, .int .u64 gm, .int .u64 gl, .int .u64 gh, .int .i64 gi, .int .i64 gj] 28) := by rw [← hw]; exact al_at _ _
  have HB : Hid (But [] w w9) := Lib.hid (by rw [← hw]; exact HB.out.alloc _)
  clear hw
  clear zR cR0 cR1 cR2 cR3 cR4 cR5 fR0 fR1 fR2 fR3 fR4 fR5
  obtain ⟨cR0, cR1, cR2, cR3, cR4, cR5⟩ := c6_of hR
  obtain ⟨fR0, fR1, fR2, fR3, fR4, fR5⟩ := f6_of hR
  have zR := lt_of hR
  obtain ⟨cT0, cT1, cT2, cT3, cT4, cT5⟩ := c6_of hT
  have zT := lt_of hT
  have HR := Lib.hid hR
  have HT := Lib.hid hT
  clear hR hT
  go_wp2_with fail
  exact bodyPost_ret (v := .agg #[.int .u64 gv, .int .u64 gm, .int .u64 gl, .int .u64 gh, .int .i64 gi, .int .i64 gj]) (by simp [results, Try.results21, go_sem, cR0, cR1, cR2, cR3, cR4, cR5]) rfl ⟨rfl, by repeat (first | with_reducible exact HB.out | with_reducible refine But.alloc ?_ _ | (with_reducible refine But.setCell ?_ (.inr ?_) _; rotate_left; (simp only []; omega)))⟩
end Go.Proofs.Ytmbmmcippglfoaa.M
