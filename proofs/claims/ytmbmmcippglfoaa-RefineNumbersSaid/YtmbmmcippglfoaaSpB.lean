/-
  span.Leq.
-/
import Derived.Test.YtmbmmcippglfoaaSpA
import Derived.Test.YtmbmmcippglfoaaGB
namespace Go.Proofs.Ytmbmmcippglfoaa.M
open Go.RowKit Go.Shelf
set_option linter.unusedVariables false
set_option linter.unusedSectionVars false
set_option linter.unusedSimpArgs false
def wiB (lo hi lo2 hi2 : Nat) : Bool := decide (lo2 ≤ lo) && decide (hi ≤ hi2)
def wiS (lo hi lo2 hi2 : Int) : Bool := decide (lo2 ≤ lo) && decide (hi ≤ hi2)
set_option maxHeartbeats 1000000 in
theorem good_c (lo hi : Nat) (sl sh : Int) (w : World) : Calls Try.prog 60 #[.agg #[.int .u64 lo, .int .u64 hi, .int .i64 sl, .int .i64 sh]] w fun e w' => e = .returned (.bool (spR ⟨lo, hi, sl, sh⟩)) ∧ But [] w w' := by
  go_enter Try.func60, Try.ntmps60
  go_wp2
  all_goals rename_i h
  all_goals go_ret
  all_goals exact ⟨by simp [spR, h], by repeat (first | exact But.refl _ _ | refine But.alloc ?_ _)⟩
set_option maxHeartbeats 1000000 in
theorem withinU_c (lo hi lo2 hi2 : Nat) (w : World) : Calls Try.prog 61 #[.agg #[.int .u64 lo, .int .u64 hi], .agg #[.int .u64 lo2, .int .u64 hi2]] w fun e w' => e = .returned (.bool (wiB lo hi lo2 hi2)) ∧ But [] w w' := by
  go_enter Try.func61, Try.ntmps61
  go_wp2
  all_goals rename_i h
  all_goals go_ret
  all_goals exact ⟨by simp [wiB, h], by repeat (first | exact But.refl _ _ | refine But.alloc ?_ _)⟩
set_option maxHeartbeats 1000000 in
theorem withinS_c (lo hi lo2 hi2 : Int) (w : World) : Calls Try.prog 62 #[.agg #[.int .i64 lo, .int .i64 hi], .agg #[.int .i64 lo2, .int .i64 hi2]] w fun e w' => e = .returned (.bool (wiS lo hi lo2 hi2)) ∧ But [] w w' := by
  go_enter Try.func62, Try.ntmps62
  go_wp2
  all_goals rename_i h
  all_goals go_ret
  all_goals exact ⟨(by simp [wiS, h] <;> omega), by repeat (first | exact But.refl _ _ | refine But.alloc ?_ _)⟩
theorem dr_keep {W : World} {k : Nat} {o : Obj} (h : W.heap[k]? = some o) : W.drew.heap[k]? = some o := h
set_option maxHeartbeats 4000000 in
theorem spLeq_c (lo hi lo2 hi2 : Nat) (sl sh sl2 sh2 : Int) (w : World) : Calls Try.prog 29 #[.agg #[.int .u64 lo, .int .u64 hi, .int .i64 sl, .int .i64 sh], .agg #[.int .u64 lo2, .int .u64 hi2, .int .i64 sl2, .int .i64 sh2]] w fun e w' => e = .returned (.bool (spLeq ⟨lo, hi, sl, sh⟩ ⟨lo2, hi2, sl2, sh2⟩)) ∧ But [] w w' := by
  go_enter Try.func29, Try.ntmps29
  go_wp2_with fail
  go_cut [5, 6] (fun x y wx => ∃ q5 q6, x = .pointer (some ⟨q5, 0, none⟩) ∧ y = .pointer (some ⟨q6, 0, none⟩) ∧ wx.heap[q5]? = some (.cells #[.int .u64 lo, .int .u64 hi, .int .i64 sl, .int .i64 sh] 89) ∧ wx.heap[q6]? = some (.cells #[.int .u64 lo2, .int .u64 hi2, .int .i64 sl2, .int .i64 sh2] 89) ∧ But [] w wx)
  case first =>
    have HK : Hid (∀ wx, But [] ((w.alloc (.cells #[.int .u64 lo, .int .u64 hi, .int .i64 sl, .int .i64 sh] 26)).alloc (.cells #[.int .u64 lo2, .int .u64 hi2, .int .i64 sl2, .int .i64 sh2] 26)) wx → wx.cell? ⟨w.heap.size, 0, none⟩ = some (.int .u64 lo) ∧ wx.cell? ⟨w.heap.size, 1, none⟩ = some (.int .u64 hi) ∧ wx.cell? ⟨w.heap.size, 2, none⟩ = some (.int .i64 sl) ∧ wx.cell? ⟨w.heap.size, 3, none⟩ = some (.int .i64 sh) ∧ wx.cell? ⟨w.heap.size + 1, 0, none⟩ = some (.int .u64 lo2) ∧ wx.cell? ⟨w.heap.size + 1, 1, none⟩ = some (.int .u64 hi2) ∧ wx.cell? ⟨w.heap.size + 1, 2, none⟩ = some (.int .i64 sl2) ∧ wx.cell? ⟨w.heap.size + 1, 3, none⟩ = some (.int .i64 sh2)) := Lib.hid (fun wx hb => by
      have h1 := hb.heap (al_keep (al_at w _) _) (by simp)
      have h2 := hb.heap (al_eq (w.alloc (.cells #[.int .u64 lo, .int .u64 hi, .int .i64 sl, .int .i64 sh] 26)) (.cells #[.int .u64 lo2, .int .u64 hi2, .int .i64 sl2, .int .i64 sh2] 26) (w.heap.size + 1) (by simp only [size_alloc])) (by simp)
      exact ⟨cl_of h1 0, cl_of h1 1, cl_of h1 2, cl_of h1 3, cl_of h2 0, cl_of h2 1, cl_of h2 2, cl_of h2 3⟩)
    go_region_held3 (fun wx => wx.cell? ⟨w.heap.size, 0, none⟩ = some (.int .u64 lo) ∧ wx.cell? ⟨w.heap.size, 1, none⟩ = some (.int .u64 hi) ∧ wx.cell? ⟨w.heap.size, 2, none⟩ = some (.int .i64 sl) ∧ wx.cell? ⟨w.heap.size, 3, none⟩ = some (.int .i64 sh) ∧ wx.cell? ⟨w.heap.size + 1, 0, none⟩ = some (.int .u64 lo2) ∧ wx.cell? ⟨w.heap.size + 1, 1, none⟩ = some (.int .u64 hi2) ∧ wx.cell? ⟨w.heap.size + 1, 2, none⟩ = some (.int .i64 sl2) ∧ wx.cell? ⟨w.heap.size + 1, 3, none⟩ = some (.int .i64 sh2)) (exact HK.out _ (by repeat (first | exact But.refl _ _ | refine But.drew ?_ | refine But.alloc ?_ _))) ((go_at_call 59; refine (spOf_c _ _ _ _ _).mono ?_; rintro e w8 ⟨rfl, rfl⟩))
    all_goals (go_wp2_with fail)
    all_goals go_meet
    all_goals exact ⟨_, _, rfl, rfl, by repeat (first | (refine al_eq _ _ _ ?_; (simp only [size_alloc]; done)) | refine al_keep ?_ _ | refine dr_keep ?_), by repeat (first | (refine al_eq _ _ _ ?_; (simp only [size_alloc]; done)) | refine al_keep ?_ _ | refine dr_keep ?_), by repeat (first | exact But.refl _ _ | refine But.drew ?_ | refine But.alloc ?_ _)⟩
  case rest =>
    obtain ⟨q5, q6, rfl, rfl, h5, h6, hb⟩ := hcut
    obtain ⟨a0, a1, a2, a3⟩ := c4_of h5
    obtain ⟨b0, b1, b2, b3⟩ := c4_of h6
    have HB := Lib.hid hb
    have H5 := Lib.hid h5
    have H6 := Lib.hid h6
    clear h5 h6 hb
    have G1 := Lib.hid (fun w => good_c lo hi sl sh w)
    have G2 := Lib.hid (fun w => good_c lo2 hi2 sl2 sh2 w)
    have G3 := Lib.hid (fun w => withinU_c lo hi lo2 hi2 w)
    have G4 := Lib.hid (fun w => withinS_c sl sh sl2 sh2 w)
    cases e1 : spR ⟨lo, hi, sl, sh⟩ with
    | false =>
      rw [e1] at G1
      have HE : Hid (spLeq ⟨lo, hi, sl, sh⟩ ⟨lo2, hi2, sl2, sh2⟩ = false) := Lib.hid (by simp [spLeq, e1])
      clear e1
      go_wp2_with fail
      refine (G1.out _).mono ?_
      rintro e w7 ⟨rfl, hb7⟩
      have h5 := hb7.heap H5.out (by simp)
      have h6 := hb7.heap H6.out (by simp)
      obtain ⟨a0, a1, a2, a3⟩ := c4_of h5
      obtain ⟨b0, b1, b2, b3⟩ := c4_of h6
      have HB := Lib.hid (HB.out.trans hb7 (by simp))
      have H5 := Lib.hid h5
      have H6 := Lib.hid h6
      clear h5 h6 hb7
      go_wp2_with fail
      go_ret
      exact ⟨(by rw [HE.out]; first | done | rfl), HB.out⟩
    | true =>
      rw [e1] at G1
      cases e2 : spR ⟨lo2, hi2, sl2, sh2⟩ with
      | false =>
        rw [e2] at G2
        have HE : Hid (spLeq ⟨lo, hi, sl, sh⟩ ⟨lo2, hi2, sl2, sh2⟩ = false) := Lib.hid (by simp [spLeq, e2])
        clear e1 e2
        go_wp2_with fail
        refine (G1.out _).mono ?_
        rintro e w7 ⟨rfl, hb7⟩
        have h5 := hb7.heap H5.out (by simp)
        have h6 := hb7.heap H6.out (by simp)
        obtain ⟨a0, a1, a2, a3⟩ := c4_of h5
        obtain ⟨b0, b1, b2, b3⟩ := c4_of h6
        have HB := Lib.hid (HB.out.trans hb7 (by simp))
        have H5 := Lib.hid h5
        have H6 := Lib.hid h6
        clear h5 h6 hb7
        go_wp2_with fail
        refine (G2.out _).mono ?_
        rintro e w8 ⟨rfl, hb8⟩
        have h5 := hb8.heap H5.out (by simp)
        have h6 := hb8.heap H6.out (by simp)
        obtain ⟨a0, a1, a2, a3⟩ := c4_of h5
        obtain ⟨b0, b1, b2, b3⟩ := c4_of h6
        have HB := Lib.hid (HB.out.trans hb8 (by simp))
        have H5 := Lib.hid h5
        have H6 := Lib.hid h6
        clear h5 h6 hb8
        go_wp2_with fail
        go_ret
        exact ⟨(by rw [HE.out]; first | done | rfl), HB.out⟩
      | true =>
        rw [e2] at G2
        cases e3 : wiB lo hi lo2 hi2 with
        | false =>
          rw [e3] at G3
          have HE : Hid (spLeq ⟨lo, hi, sl, sh⟩ ⟨lo2, hi2, sl2, sh2⟩ = false) := Lib.hid (by simp only [wiB, Bool.and_eq_false_iff, decide_eq_false_iff_not] at e3; simp [spLeq]; omega)
          clear e1 e2 e3
          go_wp2_with fail
          refine (G1.out _).mono ?_
          rintro e w7 ⟨rfl, hb7⟩
          have h5 := hb7.heap H5.out (by simp)
          have h6 := hb7.heap H6.out (by simp)
          obtain ⟨a0, a1, a2, a3⟩ := c4_of h5
          obtain ⟨b0, b1, b2, b3⟩ := c4_of h6
          have HB := Lib.hid (HB.out.trans hb7 (by simp))
          have H5 := Lib.hid h5
          have H6 := Lib.hid h6
          clear h5 h6 hb7
          go_wp2_with fail
          refine (G2.out _).mono ?_
          rintro e w8 ⟨rfl, hb8⟩
          have h5 := hb8.heap H5.out (by simp)
          have h6 := hb8.heap H6.out (by simp)
          obtain ⟨a0, a1, a2, a3⟩ := c4_of h5
          obtain ⟨b0, b1, b2, b3⟩ := c4_of h6
          have HB := Lib.hid (HB.out.trans hb8 (by simp))
          have H5 := Lib.hid h5
          have H6 := Lib.hid h6
          clear h5 h6 hb8
          go_wp2_with fail
          refine (G3.out _).mono ?_
          rintro e w9 ⟨rfl, hb9⟩
          have h5 := hb9.heap H5.out (by simp)
          have h6 := hb9.heap H6.out (by simp)
          obtain ⟨a0, a1, a2, a3⟩ := c4_of h5
          obtain ⟨b0, b1, b2, b3⟩ := c4_of h6
          have HB := Lib.hid (HB.out.trans hb9 (by simp))
          have H5 := Lib.hid h5
          have H6 := Lib.hid h6
          clear h5 h6 hb9
          go_wp2_with fail
          go_ret
          exact ⟨(by rw [HE.out]; first | done | rfl), HB.out⟩
        | true =>
          rw [e3] at G3
          cases e4 : wiS sl sh sl2 sh2 with
          | false =>
            rw [e4] at G4
            have HE : Hid (spLeq ⟨lo, hi, sl, sh⟩ ⟨lo2, hi2, sl2, sh2⟩ = false) := Lib.hid (by simp only [wiS, Bool.and_eq_false_iff, decide_eq_false_iff_not] at e4; simp [spLeq]; omega)
            clear e1 e2 e3 e4
            go_wp2_with fail
            refine (G1.out _).mono ?_
            rintro e w7 ⟨rfl, hb7⟩
            have h5 := hb7.heap H5.out (by simp)
            have h6 := hb7.heap H6.out (by simp)
            obtain ⟨a0, a1, a2, a3⟩ := c4_of h5
            obtain ⟨b0, b1, b2, b3⟩ := c4_of h6
            have HB := Lib.hid (HB.out.trans hb7 (by simp))
            have H5 := Lib.hid h5
            have H6 := Lib.hid h6
            clear h5 h6 hb7
            go_wp2_with fail
            refine (G2.out _).mono ?_
            rintro e w8 ⟨rfl, hb8⟩
            have h5 := hb8.heap H5.out (by simp)
            have h6 := hb8.heap H6.out (by simp)
            obtain ⟨a0, a1, a2, a3⟩ := c4_of h5
            obtain ⟨b0, b1, b2, b3⟩ := c4_of h6
            have HB := Lib.hid (HB.out.trans hb8 (by simp))
            have H5 := Lib.hid h5
            have H6 := Lib.hid h6
            clear h5 h6 hb8
            go_wp2_with fail
            refine (G3.out _).mono ?_
            rintro e w9 ⟨rfl, hb9⟩
            have h5 := hb9.heap H5.out (by simp)
            have h6 := hb9.heap H6.out (by simp)
            obtain ⟨a0, a1, a2, a3⟩ := c4_of h5
            obtain ⟨b0, b1, b2, b3⟩ := c4_of h6
            have HB := Lib.hid (HB.out.trans hb9 (by simp))
            have H5 := Lib.hid h5
            have H6 := Lib.hid h6
            clear h5 h6 hb9
            go_wp2_with fail
            refine (G4.out _).mono ?_
            rintro e w10 ⟨rfl, hb10⟩
            have h5 := hb10.heap H5.out (by simp)
            have h6 := hb10.heap H6.out (by simp)
            obtain ⟨a0, a1, a2, a3⟩ := c4_of h5
            obtain ⟨b0, b1, b2, b3⟩ := c4_of h6
            have HB := Lib.hid (HB.out.trans hb10 (by simp))
            have H5 := Lib.hid h5
            have H6 := Lib.hid h6
            clear h5 h6 hb10
            go_wp2_with fail
            go_ret
            exact ⟨(by rw [HE.out]; first | done | rfl), HB.out⟩
          | true =>
            rw [e4] at G4
            have HE : Hid (spLeq ⟨lo, hi, sl, sh⟩ ⟨lo2, hi2, sl2, sh2⟩ = true) := Lib.hid (by simp only [wiB, wiS, Bool.and_eq_true, decide_eq_true_eq] at e3 e4; simp [spLeq, e1, e2, e3, e4])
            clear e1 e2 e3 e4
            go_wp2_with fail
            refine (G1.out _).mono ?_
            rintro e w7 ⟨rfl, hb7⟩
            have h5 := hb7.heap H5.out (by simp)
            have h6 := hb7.heap H6.out (by simp)
            obtain ⟨a0, a1, a2, a3⟩ := c4_of h5
            obtain ⟨b0, b1, b2, b3⟩ := c4_of h6
            have HB := Lib.hid (HB.out.trans hb7 (by simp))
            have H5 := Lib.hid h5
            have H6 := Lib.hid h6
            clear h5 h6 hb7
            go_wp2_with fail
            refine (G2.out _).mono ?_
            rintro e w8 ⟨rfl, hb8⟩
            have h5 := hb8.heap H5.out (by simp)
            have h6 := hb8.heap H6.out (by simp)
            obtain ⟨a0, a1, a2, a3⟩ := c4_of h5
            obtain ⟨b0, b1, b2, b3⟩ := c4_of h6
            have HB := Lib.hid (HB.out.trans hb8 (by simp))
            have H5 := Lib.hid h5
            have H6 := Lib.hid h6
            clear h5 h6 hb8
            go_wp2_with fail
            refine (G3.out _).mono ?_
            rintro e w9 ⟨rfl, hb9⟩
            have h5 := hb9.heap H5.out (by simp)
            have h6 := hb9.heap H6.out (by simp)
            obtain ⟨a0, a1, a2, a3⟩ := c4_of h5
            obtain ⟨b0, b1, b2, b3⟩ := c4_of h6
            have HB := Lib.hid (HB.out.trans hb9 (by simp))
            have H5 := Lib.hid h5
            have H6 := Lib.hid h6
            clear h5 h6 hb9
            go_wp2_with fail
            refine (G4.out _).mono ?_
            rintro e w10 ⟨rfl, hb10⟩
            have h5 := hb10.heap H5.out (by simp)
            have h6 := hb10.heap H6.out (by simp)
            obtain ⟨a0, a1, a2, a3⟩ := c4_of h5
            obtain ⟨b0, b1, b2, b3⟩ := c4_of h6
            have HB := Lib.hid (HB.out.trans hb10 (by simp))
            have H5 := Lib.hid h5
            have H6 := Lib.hid h6
            clear h5 h6 hb10
            go_wp2_with fail
            go_ret
            exact ⟨(by rw [HE.out]; first | done | rfl), HB.out⟩
end Go.Proofs.Ytmbmmcippglfoaa.M

