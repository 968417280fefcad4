/-
  span.Meet.
-/
import Derived.Test.YtmbmmcippglfoaaSpC
namespace Go.Proofs.Ytmbmmcippglfoaa.M
open Go.RowKit Go.Shelf
set_option linter.unusedVariables false
set_option linter.unusedSectionVars false
set_option linter.unusedSimpArgs false
def spMeetV (a b : Sp) : Sp := if spMeetB a b then spMeet a b else ⟨0, 0, 0, 0⟩
set_option maxRecDepth 100000 in
set_option maxHeartbeats 4000000 in
theorem meetU_c (lo hi lo2 hi2 p r : Nat) (hp : max lo lo2 = p) (hr : min hi hi2 = r) (w : World) : Calls Try.prog 110 #[.agg #[.int .u64 lo, .int .u64 hi], .agg #[.int .u64 lo2, .int .u64 hi2]] w fun e w' => e = .returned (.agg #[.int .u64 p, .int .u64 r]) ∧ w' = ((w.alloc (.cells #[.int .u64 lo, .int .u64 hi] 85)).alloc (.cells #[.int .u64 lo2, .int .u64 hi2] 85)).alloc (.cells #[.int .u64 p, .int .u64 r] 85) := by
  have h1 : max (lo : Int) (lo2 : Int) = (p : Int) := by rw [← hp]; first | done | omega
  have h2 : min (hi : Int) (hi2 : Int) = (r : Int) := by rw [← hr]; first | done | omega
  clear hp hr
  go_enter Try.func110, Try.ntmps110
  go_wp2
  exact bodyPost_ret (v := .agg #[.int .u64 p, .int .u64 r]) (by simp [results, Try.results110, go_sem]) rfl ⟨rfl, rfl⟩
set_option maxRecDepth 100000 in
set_option maxHeartbeats 4000000 in
theorem meetS_c (lo hi lo2 hi2 p r : Int) (hp : max lo lo2 = p) (hr : min hi hi2 = r) (w : World) : Calls Try.prog 111 #[.agg #[.int .i64 lo, .int .i64 hi], .agg #[.int .i64 lo2, .int .i64 hi2]] w fun e w' => e = .returned (.agg #[.int .i64 p, .int .i64 r]) ∧ w' = ((w.alloc (.cells #[.int .i64 lo, .int .i64 hi] 87)).alloc (.cells #[.int .i64 lo2, .int .i64 hi2] 87)).alloc (.cells #[.int .i64 p, .int .i64 r] 87) := by
  have h1 : max (lo : Int) (lo2 : Int) = (p : Int) := by rw [← hp]; first | done | omega
  have h2 : min (hi : Int) (hi2 : Int) = (r : Int) := by rw [← hr]; first | done | omega
  clear hp hr
  go_enter Try.func111, Try.ntmps111
  go_wp2
  exact bodyPost_ret (v := .agg #[.int .i64 p, .int .i64 r]) (by simp [results, Try.results111, go_sem]) rfl ⟨rfl, rfl⟩
set_option maxRecDepth 100000 in
set_option maxHeartbeats 4000000 in
theorem toSpan_c (lo hi : Nat) (sl sh : Int) (w : World) : Calls Try.prog 76 #[.agg #[.int .u64 lo, .int .u64 hi, .int .i64 sl, .int .i64 sh]] w fun e w' => e = .returned (.agg #[.int .u64 lo, .int .u64 hi, .int .i64 sl, .int .i64 sh]) ∧ But [] w w' := by
  go_enter Try.func76, Try.ntmps76
  go_wp2
  exact bodyPost_ret (v := .agg #[.int .u64 lo, .int .u64 hi, .int .i64 sl, .int .i64 sh]) (by simp [results, Try.results76, go_sem]) rfl ⟨rfl, by repeat (first | exact But.refl _ _ | refine But.alloc ?_ _ | refine But.setCell ?_ (.inr (by simp)) _)⟩
set_option maxRecDepth 100000 in
set_option maxHeartbeats 4000000 in
theorem spMeet_c (lo hi lo2 hi2 : Nat) (sl sh sl2 sh2 : Int) (w : World) : Calls Try.prog 84 #[.agg #[.int .u64 lo, .int .u64 hi, .int .i64 sl, .int .i64 sh], .agg #[.int .u64 lo2, .int .u64 hi2, .int .i64 sl2, .int .i64 sh2]] w fun e w' => e = .returned (.tuple #[(spMeetV ⟨lo, hi, sl, sh⟩ ⟨lo2, hi2, sl2, sh2⟩).val, .bool (spMeetB ⟨lo, hi, sl, sh⟩ ⟨lo2, hi2, sl2, sh2⟩)]) ∧ But [] w w' := by
  obtain ⟨ml, hml⟩ : ∃ x, max lo lo2 = x := ⟨_, rfl⟩
  obtain ⟨mh, hmh⟩ : ∃ x, min hi hi2 = x := ⟨_, rfl⟩
  obtain ⟨ms, hms⟩ : ∃ x, max sl sl2 = x := ⟨_, rfl⟩
  obtain ⟨mt, hmt⟩ : ∃ x, min sh sh2 = x := ⟨_, rfl⟩
  have HMU := Lib.hid (fun w => meetU_c lo hi lo2 hi2 ml mh hml hmh w)
  have HMS := Lib.hid (fun w => meetS_c sl sh sl2 sh2 ms mt hms hmt w)
  have HSP : Hid (spMeet ⟨lo, hi, sl, sh⟩ ⟨lo2, hi2, sl2, sh2⟩ = ⟨ml, mh, ms, mt⟩) := Lib.hid (by simp only [spMeet, hml, hmh, hms, hmt])
  clear hml hmh hms hmt
  go_enter Try.func84, Try.ntmps84
  go_wp2_with fail
  go_cut [6, 7] (fun x y wx => ∃ q5 q6, x = .pointer (some ⟨q5, 0, none⟩) ∧ y = .pointer (some ⟨q6, 0, none⟩) ∧ wx.heap[q5]? = some (.cells #[.int .u64 lo, .int .u64 hi, .int .i64 sl, .int .i64 sh] 89) ∧ wx.heap[q6]? = some (.cells #[.int .u64 lo2, .int .u64 hi2, .int .i64 sl2, .int .i64 sh2] 89) ∧ But [] (((w.alloc (.cells #[.int .u64 lo, .int .u64 hi, .int .i64 sl, .int .i64 sh] 26)).alloc (.cells #[.int .u64 lo2, .int .u64 hi2, .int .i64 sl2, .int .i64 sh2] 26)).alloc (.cells #[.int .u64 0, .int .u64 0, .int .i64 0, .int .i64 0] 26)) wx)
  case first =>
    have HK : Hid (∀ wx, But [] (((w.alloc (.cells #[.int .u64 lo, .int .u64 hi, .int .i64 sl, .int .i64 sh] 26)).alloc (.cells #[.int .u64 lo2, .int .u64 hi2, .int .i64 sl2, .int .i64 sh2] 26)).alloc (.cells #[.int .u64 0, .int .u64 0, .int .i64 0, .int .i64 0] 26)) wx → wx.cell? ⟨w.heap.size, 0, none⟩ = some (.int .u64 lo) ∧ wx.cell? ⟨w.heap.size, 1, none⟩ = some (.int .u64 hi) ∧ wx.cell? ⟨w.heap.size, 2, none⟩ = some (.int .i64 sl) ∧ wx.cell? ⟨w.heap.size, 3, none⟩ = some (.int .i64 sh) ∧ wx.cell? ⟨w.heap.size + 1, 0, none⟩ = some (.int .u64 lo2) ∧ wx.cell? ⟨w.heap.size + 1, 1, none⟩ = some (.int .u64 hi2) ∧ wx.cell? ⟨w.heap.size + 1, 2, none⟩ = some (.int .i64 sl2) ∧ wx.cell? ⟨w.heap.size + 1, 3, none⟩ = some (.int .i64 sh2)) := Lib.hid (fun wx hb => by
      have h1 : wx.heap[w.heap.size]? = some (.cells #[.int .u64 lo, .int .u64 hi, .int .i64 sl, .int .i64 sh] 26) := hb.heap (by repeat (first | (with_reducible refine al_eq _ _ _ ?_; (simp only [size_alloc]; done)) | with_reducible refine al_keep ?_ _ | with_reducible refine dr_keep ?_)) (by simp)
      have h2 : wx.heap[w.heap.size + 1]? = some (.cells #[.int .u64 lo2, .int .u64 hi2, .int .i64 sl2, .int .i64 sh2] 26) := hb.heap (by repeat (first | (with_reducible refine al_eq _ _ _ ?_; (simp only [size_alloc]; done)) | with_reducible refine al_keep ?_ _ | with_reducible refine dr_keep ?_)) (by simp)
      exact ⟨cl_of h1 0, cl_of h1 1, cl_of h1 2, cl_of h1 3, cl_of h2 0, cl_of h2 1, cl_of h2 2, cl_of h2 3⟩)
    go_region_held3 (fun wx => wx.cell? ⟨w.heap.size, 0, none⟩ = some (.int .u64 lo) ∧ wx.cell? ⟨w.heap.size, 1, none⟩ = some (.int .u64 hi) ∧ wx.cell? ⟨w.heap.size, 2, none⟩ = some (.int .i64 sl) ∧ wx.cell? ⟨w.heap.size, 3, none⟩ = some (.int .i64 sh) ∧ wx.cell? ⟨w.heap.size + 1, 0, none⟩ = some (.int .u64 lo2) ∧ wx.cell? ⟨w.heap.size + 1, 1, none⟩ = some (.int .u64 hi2) ∧ wx.cell? ⟨w.heap.size + 1, 2, none⟩ = some (.int .i64 sl2) ∧ wx.cell? ⟨w.heap.size + 1, 3, none⟩ = some (.int .i64 sh2)) (exact HK.out _ (by repeat (first | with_reducible exact But.refl _ _ | with_reducible refine But.drew ?_ | with_reducible refine But.alloc ?_ _))) ((go_at_call 59; refine (spOf_c _ _ _ _ _).mono ?_; rintro e w8 ⟨rfl, rfl⟩))
    all_goals (go_wp2_with fail)
    all_goals go_meet
    all_goals exact ⟨_, _, rfl, rfl, (by repeat (first | (with_reducible refine al_eq _ _ _ ?_; (simp only [size_alloc]; done)) | with_reducible refine al_keep ?_ _ | with_reducible refine dr_keep ?_)), (by repeat (first | (with_reducible refine al_eq _ _ _ ?_; (simp only [size_alloc]; done)) | with_reducible refine al_keep ?_ _ | with_reducible refine dr_keep ?_)), (by repeat (first | with_reducible exact But.refl _ _ | with_reducible refine But.drew ?_ | with_reducible refine But.alloc ?_ _))⟩
  case rest =>
    obtain ⟨q5, q6, rfl, rfl, h5, h6, hb⟩ := hcut
    have hR : wc.heap[w.heap.size + 1 + 1]? = some (.cells #[.int .u64 0, .int .u64 0, .int .i64 0, .int .i64 0] 26) := hb.heap (by repeat (first | (with_reducible refine al_eq _ _ _ ?_; (simp only [size_alloc]; done)) | with_reducible refine al_keep ?_ _ | with_reducible refine dr_keep ?_)) (by simp)
    have HB : Hid (But [] w wc) := Lib.hid ((by repeat (first | with_reducible exact But.refl _ _ | with_reducible refine But.drew ?_ | with_reducible refine But.alloc ?_ _) : But [] w _).trans hb (by simp))
    obtain ⟨c50, c51, c52, c53⟩ := c4_of h5
    have z5 := lt_of h5
    obtain ⟨c60, c61, c62, c63⟩ := c4_of h6
    have z6 := lt_of h6
    obtain ⟨cR0, cR1, cR2, cR3⟩ := c4_of hR
    obtain ⟨fR0, fR1, fR2, fR3⟩ := f4_of hR
    have zR := lt_of hR
    have H5 := Lib.hid h5
    have H6 := Lib.hid h6
    have HR := Lib.hid hR
    clear h5 h6 hR hb
    go_wp2_with fail
    go_cut [8] (fun x wx => ∃ q8, x = .pointer (some ⟨q8, 0, none⟩) ∧ wx.heap[q8]? = some (.cells #[.int .u64 ml, .int .u64 mh, .int .i64 ms, .int .i64 mt] 89) ∧ But [] wc wx)
    case first =>
      have HK : Hid (∀ wx, But [] wc wx → wx.cell? ⟨q5, 0, none⟩ = some (.int .u64 lo) ∧ wx.cell? ⟨q5, 1, none⟩ = some (.int .u64 hi) ∧ wx.cell? ⟨q5, 2, none⟩ = some (.int .i64 sl) ∧ wx.cell? ⟨q5, 3, none⟩ = some (.int .i64 sh) ∧ wx.cell? ⟨q6, 0, none⟩ = some (.int .u64 lo2) ∧ wx.cell? ⟨q6, 1, none⟩ = some (.int .u64 hi2) ∧ wx.cell? ⟨q6, 2, none⟩ = some (.int .i64 sl2) ∧ wx.cell? ⟨q6, 3, none⟩ = some (.int .i64 sh2)) := Lib.hid (fun wx hb => by
        have h1 := hb.heap H5.out (by simp)
        have h2 := hb.heap H6.out (by simp)
        exact ⟨cl_of h1 0, cl_of h1 1, cl_of h1 2, cl_of h1 3, cl_of h2 0, cl_of h2 1, cl_of h2 2, cl_of h2 3⟩)
      go_region_held3 (fun wx => wx.cell? ⟨q5, 0, none⟩ = some (.int .u64 lo) ∧ wx.cell? ⟨q5, 1, none⟩ = some (.int .u64 hi) ∧ wx.cell? ⟨q5, 2, none⟩ = some (.int .i64 sl) ∧ wx.cell? ⟨q5, 3, none⟩ = some (.int .i64 sh) ∧ wx.cell? ⟨q6, 0, none⟩ = some (.int .u64 lo2) ∧ wx.cell? ⟨q6, 1, none⟩ = some (.int .u64 hi2) ∧ wx.cell? ⟨q6, 2, none⟩ = some (.int .i64 sl2) ∧ wx.cell? ⟨q6, 3, none⟩ = some (.int .i64 sh2)) (exact HK.out _ (by repeat (first | with_reducible exact But.refl _ _ | with_reducible refine But.drew ?_ | with_reducible refine But.alloc ?_ _))) (first | (go_at_call 110; refine (HMU.out _).mono ?_; rintro e w8 ⟨rfl, rfl⟩) | (go_at_call 111; refine (HMS.out _).mono ?_; rintro e w8 ⟨rfl, rfl⟩))
      all_goals (go_wp2_with fail)
      all_goals go_meet
      all_goals exact ⟨_, rfl, (by repeat (first | (with_reducible refine al_eq _ _ _ ?_; (simp only [size_alloc]; done)) | with_reducible refine al_keep ?_ _ | with_reducible refine dr_keep ?_)), (by repeat (first | with_reducible exact But.refl _ _ | with_reducible refine But.drew ?_ | with_reducible refine But.alloc ?_ _))⟩
    case rest =>
      obtain ⟨q8, rfl, h8, hb8⟩ := hcut
      rename World => wd
      have h5 : wd.heap[q5]? = some (.cells #[.int .u64 lo, .int .u64 hi, .int .i64 sl, .int .i64 sh] 89) := hb8.heap H5.out (by simp)
      have h6 : wd.heap[q6]? = some (.cells #[.int .u64 lo2, .int .u64 hi2, .int .i64 sl2, .int .i64 sh2] 89) := hb8.heap H6.out (by simp)
      have hR : wd.heap[w.heap.size + 1 + 1]? = some (.cells #[.int .u64 0, .int .u64 0, .int .i64 0, .int .i64 0] 26) := hb8.heap HR.out (by simp)
      have HB : Hid (But [] w wd) := Lib.hid (HB.out.trans hb8 (by simp))
      clear c50 c51 c52 c53 c60 c61 c62 c63 cR0 cR1 cR2 cR3 fR0 fR1 fR2 fR3 z5 z6 zR
      obtain ⟨c50, c51, c52, c53⟩ := c4_of h5
      have z5 := lt_of h5
      obtain ⟨c60, c61, c62, c63⟩ := c4_of h6
      have z6 := lt_of h6
      obtain ⟨c80, c81, c82, c83⟩ := c4_of h8
      have z8 := lt_of h8
      obtain ⟨cR0, cR1, cR2, cR3⟩ := c4_of hR
      obtain ⟨fR0, fR1, fR2, fR3⟩ := f4_of hR
      have zR := lt_of hR
      have H5 := Lib.hid h5
      have H6 := Lib.hid h6
      have H8 := Lib.hid h8
      have HR := Lib.hid hR
      clear h5 h6 h8 hR hb8
      have G0 := Lib.hid (fun w => good_c lo hi sl sh w)
      have G1 := Lib.hid (fun w => good_c lo2 hi2 sl2 sh2 w)
      have G2 := Lib.hid (fun w => good_c ml mh ms mt w)
      have HTS := Lib.hid (fun w => toSpan_c ml mh ms mt w)
      cases e0 : spR ⟨lo, hi, sl, sh⟩ with
      | false =>
        rw [e0] at G0
        have HE : Hid (spMeetB ⟨lo, hi, sl, sh⟩ ⟨lo2, hi2, sl2, sh2⟩ = false) := Lib.hid (by unfold spMeetB; rw [HSP.out]; simp [e0])
        clear e0
        go_wp2_with fail
        refine (G0.out _).mono ?_
        rintro e w20 ⟨rfl, hb20⟩
        have h5 : w20.heap[q5]? = some (.cells #[.int .u64 lo, .int .u64 hi, .int .i64 sl, .int .i64 sh] 89) := hb20.heap (H5.out) (by simp)
        have h6 : w20.heap[q6]? = some (.cells #[.int .u64 lo2, .int .u64 hi2, .int .i64 sl2, .int .i64 sh2] 89) := hb20.heap (H6.out) (by simp)
        have h8 : w20.heap[q8]? = some (.cells #[.int .u64 ml, .int .u64 mh, .int .i64 ms, .int .i64 mt] 89) := hb20.heap (H8.out) (by simp)
        have hR : w20.heap[w.heap.size + 1 + 1]? = some (.cells #[.int .u64 0, .int .u64 0, .int .i64 0, .int .i64 0] 26) := hb20.heap (HR.out) (by simp)
        clear z5 z6 z8 zR
        clear c50 c51 c52 c53 c60 c61 c62 c63 c80 c81 c82 c83 cR0 cR1 cR2 cR3
        clear fR0 fR1 fR2 fR3
        obtain ⟨c50, c51, c52, c53⟩ := c4_of h5
        have z5 := lt_of h5
        obtain ⟨c60, c61, c62, c63⟩ := c4_of h6
        have z6 := lt_of h6
        obtain ⟨c80, c81, c82, c83⟩ := c4_of h8
        have z8 := lt_of h8
        obtain ⟨cR0, cR1, cR2, cR3⟩ := c4_of hR
        obtain ⟨fR0, fR1, fR2, fR3⟩ := f4_of hR
        have zR := lt_of hR
        have HB : Hid (But [] w w20) := Lib.hid ((HB.out).trans hb20 (by simp))
        have H5 := Lib.hid h5
        have H6 := Lib.hid h6
        have H8 := Lib.hid h8
        have HR := Lib.hid hR
        clear h5 h6 h8 hR hb20
        go_wp2_with fail
        exact bodyPost_ret (v := .tuple #[.agg #[.int .u64 0, .int .u64 0, .int .i64 0, .int .i64 0], .bool false]) (by simp [results, Try.results84, go_sem, cR0, cR1, cR2, cR3]) rfl ⟨by unfold spMeetV; rw [HE.out]; rfl, by
          repeat (first | with_reducible exact HB.out | with_reducible refine But.alloc ?_ _ | (with_reducible refine But.setCell ?_ (.inr ?_) _; rotate_left; (simp only []; omega)))⟩
      | true =>
        rw [e0] at G0
        cases e1 : spR ⟨lo2, hi2, sl2, sh2⟩ with
        | false =>
          rw [e1] at G1
          have HE : Hid (spMeetB ⟨lo, hi, sl, sh⟩ ⟨lo2, hi2, sl2, sh2⟩ = false) := Lib.hid (by unfold spMeetB; rw [HSP.out]; simp [e1])
          clear e0 e1
          go_wp2_with fail
          refine (G0.out _).mono ?_
          rintro e w20 ⟨rfl, hb20⟩
          have h5 : w20.heap[q5]? = some (.cells #[.int .u64 lo, .int .u64 hi, .int .i64 sl, .int .i64 sh] 89) := hb20.heap (H5.out) (by simp)
          have h6 : w20.heap[q6]? = some (.cells #[.int .u64 lo2, .int .u64 hi2, .int .i64 sl2, .int .i64 sh2] 89) := hb20.heap (H6.out) (by simp)
          have h8 : w20.heap[q8]? = some (.cells #[.int .u64 ml, .int .u64 mh, .int .i64 ms, .int .i64 mt] 89) := hb20.heap (H8.out) (by simp)
          have hR : w20.heap[w.heap.size + 1 + 1]? = some (.cells #[.int .u64 0, .int .u64 0, .int .i64 0, .int .i64 0] 26) := hb20.heap (HR.out) (by simp)
          clear z5 z6 z8 zR
          clear c50 c51 c52 c53 c60 c61 c62 c63 c80 c81 c82 c83 cR0 cR1 cR2 cR3
          clear fR0 fR1 fR2 fR3
          obtain ⟨c50, c51, c52, c53⟩ := c4_of h5
          have z5 := lt_of h5
          obtain ⟨c60, c61, c62, c63⟩ := c4_of h6
          have z6 := lt_of h6
          obtain ⟨c80, c81, c82, c83⟩ := c4_of h8
          have z8 := lt_of h8
          obtain ⟨cR0, cR1, cR2, cR3⟩ := c4_of hR
          obtain ⟨fR0, fR1, fR2, fR3⟩ := f4_of hR
          have zR := lt_of hR
          have HB : Hid (But [] w w20) := Lib.hid ((HB.out).trans hb20 (by simp))
          have H5 := Lib.hid h5
          have H6 := Lib.hid h6
          have H8 := Lib.hid h8
          have HR := Lib.hid hR
          clear h5 h6 h8 hR hb20
          go_wp2_with fail
          refine (G1.out _).mono ?_
          rintro e w21 ⟨rfl, hb21⟩
          have h5 : w21.heap[q5]? = some (.cells #[.int .u64 lo, .int .u64 hi, .int .i64 sl, .int .i64 sh] 89) := hb21.heap (H5.out) (by simp)
          have h6 : w21.heap[q6]? = some (.cells #[.int .u64 lo2, .int .u64 hi2, .int .i64 sl2, .int .i64 sh2] 89) := hb21.heap (H6.out) (by simp)
          have h8 : w21.heap[q8]? = some (.cells #[.int .u64 ml, .int .u64 mh, .int .i64 ms, .int .i64 mt] 89) := hb21.heap (H8.out) (by simp)
          have hR : w21.heap[w.heap.size + 1 + 1]? = some (.cells #[.int .u64 0, .int .u64 0, .int .i64 0, .int .i64 0] 26) := hb21.heap (HR.out) (by simp)
          clear z5 z6 z8 zR
          clear c50 c51 c52 c53 c60 c61 c62 c63 c80 c81 c82 c83 cR0 cR1 cR2 cR3
          clear fR0 fR1 fR2 fR3
          obtain ⟨c50, c51, c52, c53⟩ := c4_of h5
          have z5 := lt_of h5
          obtain ⟨c60, c61, c62, c63⟩ := c4_of h6
          have z6 := lt_of h6
          obtain ⟨c80, c81, c82, c83⟩ := c4_of h8
          have z8 := lt_of h8
          obtain ⟨cR0, cR1, cR2, cR3⟩ := c4_of hR
          obtain ⟨fR0, fR1, fR2, fR3⟩ := f4_of hR
          have zR := lt_of hR
          have HB : Hid (But [] w w21) := Lib.hid ((HB.out).trans hb21 (by simp))
          have H5 := Lib.hid h5
          have H6 := Lib.hid h6
          have H8 := Lib.hid h8
          have HR := Lib.hid hR
          clear h5 h6 h8 hR hb21
          go_wp2_with fail
          exact bodyPost_ret (v := .tuple #[.agg #[.int .u64 0, .int .u64 0, .int .i64 0, .int .i64 0], .bool false]) (by simp [results, Try.results84, go_sem, cR0, cR1, cR2, cR3]) rfl ⟨by unfold spMeetV; rw [HE.out]; rfl, by
          repeat (first | with_reducible exact HB.out | with_reducible refine But.alloc ?_ _ | (with_reducible refine But.setCell ?_ (.inr ?_) _; rotate_left; (simp only []; omega)))⟩
        | true =>
          rw [e1] at G1
          cases e2 : spR ⟨ml, mh, ms, mt⟩ with
          | false =>
            rw [e2] at G2
            have HE : Hid (spMeetB ⟨lo, hi, sl, sh⟩ ⟨lo2, hi2, sl2, sh2⟩ = false) := Lib.hid (by unfold spMeetB; rw [HSP.out]; simp [e2])
            clear e0 e1 e2
            go_wp2_with fail
            refine (G0.out _).mono ?_
            rintro e w20 ⟨rfl, hb20⟩
            have h5 : w20.heap[q5]? = some (.cells #[.int .u64 lo, .int .u64 hi, .int .i64 sl, .int .i64 sh] 89) := hb20.heap (H5.out) (by simp)
            have h6 : w20.heap[q6]? = some (.cells #[.int .u64 lo2, .int .u64 hi2, .int .i64 sl2, .int .i64 sh2] 89) := hb20.heap (H6.out) (by simp)
            have h8 : w20.heap[q8]? = some (.cells #[.int .u64 ml, .int .u64 mh, .int .i64 ms, .int .i64 mt] 89) := hb20.heap (H8.out) (by simp)
            have hR : w20.heap[w.heap.size + 1 + 1]? = some (.cells #[.int .u64 0, .int .u64 0, .int .i64 0, .int .i64 0] 26) := hb20.heap (HR.out) (by simp)
            clear z5 z6 z8 zR
            clear c50 c51 c52 c53 c60 c61 c62 c63 c80 c81 c82 c83 cR0 cR1 cR2 cR3
            clear fR0 fR1 fR2 fR3
            obtain ⟨c50, c51, c52, c53⟩ := c4_of h5
            have z5 := lt_of h5
            obtain ⟨c60, c61, c62, c63⟩ := c4_of h6
            have z6 := lt_of h6
            obtain ⟨c80, c81, c82, c83⟩ := c4_of h8
            have z8 := lt_of h8
            obtain ⟨cR0, cR1, cR2, cR3⟩ := c4_of hR
            obtain ⟨fR0, fR1, fR2, fR3⟩ := f4_of hR
            have zR := lt_of hR
            have HB : Hid (But [] w w20) := Lib.hid ((HB.out).trans hb20 (by simp))
            have H5 := Lib.hid h5
            have H6 := Lib.hid h6
            have H8 := Lib.hid h8
            have HR := Lib.hid hR
            clear h5 h6 h8 hR hb20
            go_wp2_with fail
            refine (G1.out _).mono ?_
            rintro e w21 ⟨rfl, hb21⟩
            have h5 : w21.heap[q5]? = some (.cells #[.int .u64 lo, .int .u64 hi, .int .i64 sl, .int .i64 sh] 89) := hb21.heap (H5.out) (by simp)
            have h6 : w21.heap[q6]? = some (.cells #[.int .u64 lo2, .int .u64 hi2, .int .i64 sl2, .int .i64 sh2] 89) := hb21.heap (H6.out) (by simp)
            have h8 : w21.heap[q8]? = some (.cells #[.int .u64 ml, .int .u64 mh, .int .i64 ms, .int .i64 mt] 89) := hb21.heap (H8.out) (by simp)
            have hR : w21.heap[w.heap.size + 1 + 1]? = some (.cells #[.int .u64 0, .int .u64 0, .int .i64 0, .int .i64 0] 26) := hb21.heap (HR.out) (by simp)
            clear z5 z6 z8 zR
            clear c50 c51 c52 c53 c60 c61 c62 c63 c80 c81 c82 c83 cR0 cR1 cR2 cR3
            clear fR0 fR1 fR2 fR3
            obtain ⟨c50, c51, c52, c53⟩ := c4_of h5
            have z5 := lt_of h5
            obtain ⟨c60, c61, c62, c63⟩ := c4_of h6
            have z6 := lt_of h6
            obtain ⟨c80, c81, c82, c83⟩ := c4_of h8
            have z8 := lt_of h8
            obtain ⟨cR0, cR1, cR2, cR3⟩ := c4_of hR
            obtain ⟨fR0, fR1, fR2, fR3⟩ := f4_of hR
            have zR := lt_of hR
            have HB : Hid (But [] w w21) := Lib.hid ((HB.out).trans hb21 (by simp))
            have H5 := Lib.hid h5
            have H6 := Lib.hid h6
            have H8 := Lib.hid h8
            have HR := Lib.hid hR
            clear h5 h6 h8 hR hb21
            go_wp2_with fail
            refine (G2.out _).mono ?_
            rintro e w22 ⟨rfl, hb22⟩
            have h5 : w22.heap[q5]? = some (.cells #[.int .u64 lo, .int .u64 hi, .int .i64 sl, .int .i64 sh] 89) := hb22.heap (H5.out) (by simp)
            have h6 : w22.heap[q6]? = some (.cells #[.int .u64 lo2, .int .u64 hi2, .int .i64 sl2, .int .i64 sh2] 89) := hb22.heap (H6.out) (by simp)
            have h8 : w22.heap[q8]? = some (.cells #[.int .u64 ml, .int .u64 mh, .int .i64 ms, .int .i64 mt] 89) := hb22.heap (H8.out) (by simp)
            have hR : w22.heap[w.heap.size + 1 + 1]? = some (.cells #[.int .u64 0, .int .u64 0, .int .i64 0, .int .i64 0] 26) := hb22.heap (HR.out) (by simp)
            clear z5 z6 z8 zR
            clear c50 c51 c52 c53 c60 c61 c62 c63 c80 c81 c82 c83 cR0 cR1 cR2 cR3
            clear fR0 fR1 fR2 fR3
            obtain ⟨c50, c51, c52, c53⟩ := c4_of h5
            have z5 := lt_of h5
            obtain ⟨c60, c61, c62, c63⟩ := c4_of h6
            have z6 := lt_of h6
            obtain ⟨c80, c81, c82, c83⟩ := c4_of h8
            have z8 := lt_of h8
            obtain ⟨cR0, cR1, cR2, cR3⟩ := c4_of hR
            obtain ⟨fR0, fR1, fR2, fR3⟩ := f4_of hR
            have zR := lt_of hR
            have HB : Hid (But [] w w22) := Lib.hid ((HB.out).trans hb22 (by simp))
            have H5 := Lib.hid h5
            have H6 := Lib.hid h6
            have H8 := Lib.hid h8
            have HR := Lib.hid hR
            clear h5 h6 h8 hR hb22
            go_wp2_with fail
            exact bodyPost_ret (v := .tuple #[.agg #[.int .u64 0, .int .u64 0, .int .i64 0, .int .i64 0], .bool false]) (by simp [results, Try.results84, go_sem, cR0, cR1, cR2, cR3]) rfl ⟨by unfold spMeetV; rw [HE.out]; rfl, by
          repeat (first | with_reducible exact HB.out | with_reducible refine But.alloc ?_ _ | (with_reducible refine But.setCell ?_ (.inr ?_) _; rotate_left; (simp only []; omega)))⟩
          | true =>
            rw [e2] at G2
            have HE : Hid (spMeetB ⟨lo, hi, sl, sh⟩ ⟨lo2, hi2, sl2, sh2⟩ = true) := Lib.hid (by unfold spMeetB; rw [HSP.out]; simp [e0, e1, e2])
            clear e0 e1 e2
            go_wp2_with fail
            refine (G0.out _).mono ?_
            rintro e w20 ⟨rfl, hb20⟩
            have h5 : w20.heap[q5]? = some (.cells #[.int .u64 lo, .int .u64 hi, .int .i64 sl, .int .i64 sh] 89) := hb20.heap (H5.out) (by simp)
            have h6 : w20.heap[q6]? = some (.cells #[.int .u64 lo2, .int .u64 hi2, .int .i64 sl2, .int .i64 sh2] 89) := hb20.heap (H6.out) (by simp)
            have h8 : w20.heap[q8]? = some (.cells #[.int .u64 ml, .int .u64 mh, .int .i64 ms, .int .i64 mt] 89) := hb20.heap (H8.out) (by simp)
            have hR : w20.heap[w.heap.size + 1 + 1]? = some (.cells #[.int .u64 0, .int .u64 0, .int .i64 0, .int .i64 0] 26) := hb20.heap (HR.out) (by simp)
            clear z5 z6 z8 zR
            clear c50 c51 c52 c53 c60 c61 c62 c63 c80 c81 c82 c83 cR0 cR1 cR2 cR3
            clear fR0 fR1 fR2 fR3
            obtain ⟨c50, c51, c52, c53⟩ := c4_of h5
            have z5 := lt_of h5
            obtain ⟨c60, c61, c62, c63⟩ := c4_of h6
            have z6 := lt_of h6
            obtain ⟨c80, c81, c82, c83⟩ := c4_of h8
            have z8 := lt_of h8
            obtain ⟨cR0, cR1, cR2, cR3⟩ := c4_of hR
            obtain ⟨fR0, fR1, fR2, fR3⟩ := f4_of hR
            have zR := lt_of hR
            have HB : Hid (But [] w w20) := Lib.hid ((HB.out).trans hb20 (by simp))
            have H5 := Lib.hid h5
            have H6 := Lib.hid h6
            have H8 := Lib.hid h8
            have HR := Lib.hid hR
            clear h5 h6 h8 hR hb20
            go_wp2_with fail
            refine (G1.out _).mono ?_
            rintro e w21 ⟨rfl, hb21⟩
            have h5 : w21.heap[q5]? = some (.cells #[.int .u64 lo, .int .u64 hi, .int .i64 sl, .int .i64 sh] 89) := hb21.heap (H5.out) (by simp)
            have h6 : w21.heap[q6]? = some (.cells #[.int .u64 lo2, .int .u64 hi2, .int .i64 sl2, .int .i64 sh2] 89) := hb21.heap (H6.out) (by simp)
            have h8 : w21.heap[q8]? = some (.cells #[.int .u64 ml, .int .u64 mh, .int .i64 ms, .int .i64 mt] 89) := hb21.heap (H8.out) (by simp)
            have hR : w21.heap[w.heap.size + 1 + 1]? = some (.cells #[.int .u64 0, .int .u64 0, .int .i64 0, .int .i64 0] 26) := hb21.heap (HR.out) (by simp)
            clear z5 z6 z8 zR
            clear c50 c51 c52 c53 c60 c61 c62 c63 c80 c81 c82 c83 cR0 cR1 cR2 cR3
            clear fR0 fR1 fR2 fR3
            obtain ⟨c50, c51, c52, c53⟩ := c4_of h5
            have z5 := lt_of h5
            obtain ⟨c60, c61, c62, c63⟩ := c4_of h6
            have z6 := lt_of h6
            obtain ⟨c80, c81, c82, c83⟩ := c4_of h8
            have z8 := lt_of h8
            obtain ⟨cR0, cR1, cR2, cR3⟩ := c4_of hR
            obtain ⟨fR0, fR1, fR2, fR3⟩ := f4_of hR
            have zR := lt_of hR
            have HB : Hid (But [] w w21) := Lib.hid ((HB.out).trans hb21 (by simp))
            have H5 := Lib.hid h5
            have H6 := Lib.hid h6
            have H8 := Lib.hid h8
            have HR := Lib.hid hR
            clear h5 h6 h8 hR hb21
            go_wp2_with fail
            refine (G2.out _).mono ?_
            rintro e w22 ⟨rfl, hb22⟩
            have h5 : w22.heap[q5]? = some (.cells #[.int .u64 lo, .int .u64 hi, .int .i64 sl, .int .i64 sh] 89) := hb22.heap (H5.out) (by simp)
            have h6 : w22.heap[q6]? = some (.cells #[.int .u64 lo2, .int .u64 hi2, .int .i64 sl2, .int .i64 sh2] 89) := hb22.heap (H6.out) (by simp)
            have h8 : w22.heap[q8]? = some (.cells #[.int .u64 ml, .int .u64 mh, .int .i64 ms, .int .i64 mt] 89) := hb22.heap (H8.out) (by simp)
            have hR : w22.heap[w.heap.size + 1 + 1]? = some (.cells #[.int .u64 0, .int .u64 0, .int .i64 0, .int .i64 0] 26) := hb22.heap (HR.out) (by simp)
            clear z5 z6 z8 zR
            clear c50 c51 c52 c53 c60 c61 c62 c63 c80 c81 c82 c83 cR0 cR1 cR2 cR3
            clear fR0 fR1 fR2 fR3
            obtain ⟨c50, c51, c52, c53⟩ := c4_of h5
            have z5 := lt_of h5
            obtain ⟨c60, c61, c62, c63⟩ := c4_of h6
            have z6 := lt_of h6
            obtain ⟨c80, c81, c82, c83⟩ := c4_of h8
            have z8 := lt_of h8
            obtain ⟨cR0, cR1, cR2, cR3⟩ := c4_of hR
            obtain ⟨fR0, fR1, fR2, fR3⟩ := f4_of hR
            have zR := lt_of hR
            have HB : Hid (But [] w w22) := Lib.hid ((HB.out).trans hb22 (by simp))
            have H5 := Lib.hid h5
            have H6 := Lib.hid h6
            have H8 := Lib.hid h8
            have HR := Lib.hid hR
            clear h5 h6 h8 hR hb22
            go_wp2_with fail
            refine (HTS.out _).mono ?_
            rintro e w30 ⟨rfl, hb30⟩
            have h5 : w30.heap[q5]? = some (.cells #[.int .u64 lo, .int .u64 hi, .int .i64 sl, .int .i64 sh] 89) := hb30.heap (H5.out) (by simp)
            have h6 : w30.heap[q6]? = some (.cells #[.int .u64 lo2, .int .u64 hi2, .int .i64 sl2, .int .i64 sh2] 89) := hb30.heap (H6.out) (by simp)
            have h8 : w30.heap[q8]? = some (.cells #[.int .u64 ml, .int .u64 mh, .int .i64 ms, .int .i64 mt] 89) := hb30.heap (H8.out) (by simp)
            have hR : w30.heap[w.heap.size + 1 + 1]? = some (.cells #[.int .u64 0, .int .u64 0, .int .i64 0, .int .i64 0] 26) := hb30.heap (HR.out) (by simp)
            clear z5 z6 z8 zR
            clear c50 c51 c52 c53 c60 c61 c62 c63 c80 c81 c82 c83 cR0 cR1 cR2 cR3
            clear fR0 fR1 fR2 fR3
            obtain ⟨c50, c51, c52, c53⟩ := c4_of h5
            have z5 := lt_of h5
            obtain ⟨c60, c61, c62, c63⟩ := c4_of h6
            have z6 := lt_of h6
            obtain ⟨c80, c81, c82, c83⟩ := c4_of h8
            have z8 := lt_of h8
            obtain ⟨cR0, cR1, cR2, cR3⟩ := c4_of hR
            obtain ⟨fR0, fR1, fR2, fR3⟩ := f4_of hR
            have zR := lt_of hR
            have HB : Hid (But [] w w30) := Lib.hid ((HB.out).trans hb30 (by simp))
            have H5 := Lib.hid h5
            have H6 := Lib.hid h6
            have H8 := Lib.hid h8
            have HR := Lib.hid hR
            clear h5 h6 h8 hR hb30
            go_wp2_with fail
            exact bodyPost_ret (v := .tuple #[.agg #[.int .u64 ml, .int .u64 mh, .int .i64 ms, .int .i64 mt], .bool true]) (by simp [results, Try.results84, go_sem, cR0, cR1, cR2, cR3]) rfl ⟨by unfold spMeetV; rw [HE.out, HSP.out]; rfl, by
          repeat (first | with_reducible exact HB.out | with_reducible refine But.alloc ?_ _ | (with_reducible refine But.setCell ?_ (.inr ?_) _; rotate_left; (simp only []; omega)))⟩
end Go.Proofs.Ytmbmmcippglfoaa.M
