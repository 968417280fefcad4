/-
  awake: the walk.
-/
import Derived.Test.YtmbmmcippglfoaaAwS
namespace Go.Proofs.Ytmbmmcippglfoaa.M
open Go.RowKit Go.Shelf
set_option linter.unusedVariables false
set_option linter.unusedSectionVars false
set_option linter.unusedSimpArgs false

set_option maxRecDepth 100000 in
set_option maxHeartbeats 8000000 in
theorem awake_c (w : World) : Calls Try.prog 8 #[] w fun e w' => e = .returned (.bool true) ∧ But [] w w' := by
  go_enter Try.func8, Try.ntmps8
  go_wp2_with fail
  refine (scUnknown_c _).mono ?_
  rintro e w1 ⟨rfl, hb1⟩
  have HB1 := Lib.hid hb1
  clear hb1
  go_wp2_with fail
  refine aw2 _ (ba := w1.heap.size) (Lib.hid (al_at _ _)) (Lib.hid const_10) (Lib.hid br_2) ?_
  intro _ _ _ _ _ _ _ w2 k2 l2 hb hk hl hkl h1 h2
  have HB2 := Lib.hid ((HB1.out.alloc _).trans hb (by simp))
  have H1 : Hid (w2.heap[w1.heap.size]? = some (.cells #[.int .u64 0, .int .u64 18446744073709551615, .int .u64 0, .int .u64 18446744073709551615, .int .i64 (-9223372036854775808), .int .i64 9223372036854775807] 28)) := Lib.hid (hb.heap (al_at _ _) (by simp))
  have H2 := Lib.hid h1
  clear hb hk hl hkl h1 h2 HB1
  go_wp2_with fail
  refine aw3 _ H1 (Lib.hid const_10) (Lib.hid br_3) ?_
  intro _ _ _ _ _ _ _ w3 k3 l3 hb hk hl hkl h1 h2
  have HB3 := Lib.hid (HB2.out.trans hb (by simp))
  have H1 := Lib.hid (hb.heap H1.out (by simp))
  have H2 := Lib.hid (hb.heap H2.out (by simp))
  have H5 := Lib.hid h1
  clear hb hk hl hkl h1 h2 HB2
  go_wp2_with fail
  refine (from_1_5 _).mono ?_
  rintro e v4 ⟨rfl, hb⟩
  have HX := Lib.hid hb
  clear hb
  go_wp2_with fail
  refine (from_4_9 _).mono ?_
  rintro e v4b ⟨rfl, hb⟩
  have HX := Lib.hid (HX.out.trans hb (by simp))
  clear hb
  go_wp2_with fail
  refine (br_4 _).mono ?_
  rintro e v4c ⟨rfl, hb⟩
  have HX := Lib.hid (HX.out.trans hb (by simp))
  clear hb
  go_upto_region 5 with (fail)
  generalize hw : World.alloc (World.alloc v4c _) _ = w4
  have hb : But [] w3 w4 := by rw [← hw]; exact (HX.out.alloc _).alloc _
  have HB4 := Lib.hid (HB3.out.trans hb (by simp))
  have H1 := Lib.hid (hb.heap H1.out (by simp))
  have H2 := Lib.hid (hb.heap H2.out (by simp))
  have H5 := Lib.hid (hb.heap H5.out (by simp))
  have H8 : Hid (w4.heap[v4c.heap.size]? = some (.cells #[.int .u64 4, .int .u64 1, .int .u64 4, .int .u64 5, .int .i64 4, .int .i64 5] 28)) := Lib.hid (by rw [← hw]; exact al_keep (al_at _ _) _)
  have H9 : Hid (w4.heap[v4c.heap.size + 1]? = some (.cells #[.int .u64 4, .int .u64 1, .int .u64 4, .int .u64 5, .int .i64 4, .int .i64 5] 28)) := Lib.hid (by rw [← hw]; exact al_eq _ _ _ (by simp only [size_alloc]))
  clear hw hb HX HB3
  go_wp2_with fail
  refine (from_0_3 _).mono ?_
  rintro e v5 ⟨rfl, hb⟩
  have HX := Lib.hid hb
  clear hb
  go_wp2_with fail
  refine (const_0 _).mono ?_
  rintro e v5b ⟨rfl, hb⟩
  have HX := Lib.hid (HX.out.trans hb (by simp))
  clear hb
  go_wp2_with fail
  refine (br_5 _).mono ?_
  rintro e v5c ⟨rfl, hb⟩
  have HX := Lib.hid (HX.out.trans hb (by simp))
  clear hb
  go_upto_region 6 with (fail)
  generalize hw : World.alloc (World.alloc v5c _) _ = w5
  have hb : But [] w4 w5 := by rw [← hw]; exact (HX.out.alloc _).alloc _
  have HB5 := Lib.hid (HB4.out.trans hb (by simp))
  have H1 := Lib.hid (hb.heap H1.out (by simp))
  have H2 := Lib.hid (hb.heap H2.out (by simp))
  have H5 := Lib.hid (hb.heap H5.out (by simp))
  have H8 := Lib.hid (hb.heap H8.out (by simp))
  have H9 := Lib.hid (hb.heap H9.out (by simp))
  have H11 : Hid (w5.heap[v5c.heap.size]? = some (.cells #[.int .u64 0, .int .u64 3, .int .u64 1, .int .u64 3, .int .i64 1, .int .i64 3] 28)) := Lib.hid (by rw [← hw]; exact al_keep (al_at _ _) _)
  clear hw hb HX HB4
  go_wp2_with fail
  refine aw6 _ H1 (Lib.hid const_8) (Lib.hid br_6) ?_
  intro _ _ _ _ _ _ _ w6 k6 l6 hb hk hl hkl h1 h2
  have HB6 := Lib.hid (HB5.out.trans hb (by simp))
  have H1 := Lib.hid (hb.heap H1.out (by simp))
  have H2 := Lib.hid (hb.heap H2.out (by simp))
  have H5 := Lib.hid (hb.heap H5.out (by simp))
  have H8 := Lib.hid (hb.heap H8.out (by simp))
  have H9 := Lib.hid (hb.heap H9.out (by simp))
  have H11 := Lib.hid (hb.heap H11.out (by simp))
  have H14 := Lib.hid h1
  clear hb hk hl hkl h1 h2 HB5
  go_wp2_with fail
  refine aw7 _ H1 (Lib.hid const_1) (Lib.hid br_7) ?_
  intro _ _ _ _ _ _ _ w7 k7 l7 hb hk hl hkl h1 h2
  have HB7 := Lib.hid (HB6.out.trans hb (by simp))
  have H1 := Lib.hid (hb.heap H1.out (by simp))
  have H2 := Lib.hid (hb.heap H2.out (by simp))
  have H5 := Lib.hid (hb.heap H5.out (by simp))
  have H8 := Lib.hid (hb.heap H8.out (by simp))
  have H9 := Lib.hid (hb.heap H9.out (by simp))
  have H11 := Lib.hid (hb.heap H11.out (by simp))
  have H14 := Lib.hid (hb.heap H14.out (by simp))
  have H17 := Lib.hid h1
  have H18 := Lib.hid h2
  clear hb hk hl hkl h1 h2 HB6
  go_wp2_with fail
  refine aw8 _ H1 H2 H5 H8 H9 H11 H14 H17 H18 ?_
  intro _ _ _ _ _ _ _ _ _ _ _ _ _ _ _ _ _ _ _ _ _ _ _ _ _ _ _ _ _ _ _ _ _ _ _ _ _ _ _ _ _ _ _ _ _ _ _ _ _ _ _ _ _ _ _ _ _ _ w8 hb
  have HB8 := Lib.hid (HB7.out.trans hb (by simp))
  clear hb
  go_wp2_with fail
  go_ret
  exact ⟨rfl, HB8.out⟩
end Go.Proofs.Ytmbmmcippglfoaa.M
