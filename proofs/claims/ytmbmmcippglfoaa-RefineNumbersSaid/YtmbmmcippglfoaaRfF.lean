/-
  The reference: hatchwayref21.less, under, set.
-/
import Derived.Test.YtmbmmcippglfoaaRfE
import Derived.Test.YtmbmmcippglfoaaRfP
namespace Go.Proofs.Ytmbmmcippglfoaa.M
open Go.RowKit Go.Shelf
set_option linter.unusedVariables false
set_option linter.unusedSectionVars false
set_option linter.unusedSimpArgs false

theorem drN_keep {w : World} {n k : Nat} {o : Obj} (h : w.heap[k]? = some o) : (w.drewN n).heap[k]? = some o := h
theorem drN_but {v w : World} {n : Nat} (h : But [] v w) : But [] v (w.drewN n) := ⟨h.os, h.tape, h.output, h.size, h.block⟩
theorem set2of6 {w : World} {k : Nat} {x0 x1 x2 x3 x4 x5 a : Value} {t : TypeId} (h : w.heap[k]? = some (.cells #[x0, x1, x2, x3, x4, x5] t)) : (w.setCell ⟨k, 2, none⟩ a).heap[k]? = some (.cells #[x0, x1, a, x3, x4, x5] t) := by
  simp [World.setCell, Array.getElem?_modify, h]
theorem set3of6 {w : World} {k : Nat} {x0 x1 x2 x3 x4 x5 a : Value} {t : TypeId} (h : w.heap[k]? = some (.cells #[x0, x1, x2, x3, x4, x5] t)) : (w.setCell ⟨k, 3, none⟩ a).heap[k]? = some (.cells #[x0, x1, x2, a, x4, x5] t) := by
  simp [World.setCell, Array.getElem?_modify, h]
theorem set4of6 {w : World} {k : Nat} {x0 x1 x2 x3 x4 x5 a : Value} {t : TypeId} (h : w.heap[k]? = some (.cells #[x0, x1, x2, x3, x4, x5] t)) : (w.setCell ⟨k, 4, none⟩ a).heap[k]? = some (.cells #[x0, x1, x2, x3, a, x5] t) := by
  simp [World.setCell, Array.getElem?_modify, h]
theorem set5of6 {w : World} {k : Nat} {x0 x1 x2 x3 x4 x5 a : Value} {t : TypeId} (h : w.heap[k]? = some (.cells #[x0, x1, x2, x3, x4, x5] t)) : (w.setCell ⟨k, 5, none⟩ a).heap[k]? = some (.cells #[x0, x1, x2, x3, x4, a] t) := by
  simp [World.setCell, Array.getElem?_modify, h]
set_option maxRecDepth 100000 in
set_option maxHeartbeats 4000000 in
theorem r21less_true (v m lo hi xv xm xlo xhi : Nat) (sl sh xsl xsh : Int) (w : World) (hr : Rg ⟨⟨v, m⟩, ⟨lo, hi, sl, sh⟩⟩) (hx : Rg ⟨⟨xv, xm⟩, ⟨xlo, xhi, xsl, xsh⟩⟩) : Calls Try.prog 71 #[.agg #[.int .u64 v, .int .u64 m, .int .u64 lo, .int .u64 hi, .int .i64 sl, .int .i64 sh], .agg #[.int .u64 xv, .int .u64 xm, .int .u64 xlo, .int .u64 xhi, .int .i64 xsl, .int .i64 xsh], .bool true] w (PairPost (pairO (lowT true ⟨⟨v, m⟩, ⟨lo, hi, sl, sh⟩⟩ ⟨⟨xv, xm⟩, ⟨xlo, xhi, xsl, xsh⟩⟩) (uppT true ⟨⟨xv, xm⟩, ⟨xlo, xhi, xsl, xsh⟩⟩ ⟨⟨v, m⟩, ⟨lo, hi, sl, sh⟩⟩)) w) := by
  obtain ⟨p, r, m1, m2, rA, rX, E1, E2⟩ := less_true hr hx
  simp only at m1 m2 rA rX E1 E2
  obtain ⟨⟨⟨gv, gm⟩, ⟨gl, gh, gi, gj⟩⟩, hg⟩ : ∃ g : Sc, (ofT ⟨⟨v, m⟩, ⟨lo, p, sl, sh⟩⟩).getD zeroSc = g := ⟨_, rfl⟩
  obtain ⟨gb, hgb⟩ : ∃ b, (ofT ⟨⟨v, m⟩, ⟨lo, p, sl, sh⟩⟩).isSome = b := ⟨_, rfl⟩
  obtain ⟨⟨⟨dv, dm⟩, ⟨dl, dh, di, dj⟩⟩, hd⟩ : ∃ g : Sc, (ofT ⟨⟨xv, xm⟩, ⟨r, xhi, xsl, xsh⟩⟩).getD zeroSc = g := ⟨_, rfl⟩
  obtain ⟨db, hdb⟩ : ∃ b, (ofT ⟨⟨xv, xm⟩, ⟨r, xhi, xsl, xsh⟩⟩).isSome = b := ⟨_, rfl⟩
  have G1 := Lib.hid (fun w => r21of_v v m lo p gv gm gl gh sl sh gi gj gb rA hg hgb w)
  have G2 := Lib.hid (fun w => r21of_v xv xm r xhi dv dm dl dh xsl xsh di dj db rX hd hdb w)
  have HE : Hid ((pairO (lowT true ⟨⟨v, m⟩, ⟨lo, hi, sl, sh⟩⟩ ⟨⟨xv, xm⟩, ⟨xlo, xhi, xsl, xsh⟩⟩) (uppT true ⟨⟨xv, xm⟩, ⟨xlo, xhi, xsl, xsh⟩⟩ ⟨⟨v, m⟩, ⟨lo, hi, sl, sh⟩⟩)).isSome = (gb && db)) := Lib.hid (by rw [pairO_is, E1, E2, hgb, hdb])
  have HG : Hid (∀ x, pairO (lowT true ⟨⟨v, m⟩, ⟨lo, hi, sl, sh⟩⟩ ⟨⟨xv, xm⟩, ⟨xlo, xhi, xsl, xsh⟩⟩) (uppT true ⟨⟨xv, xm⟩, ⟨xlo, xhi, xsl, xsh⟩⟩ ⟨⟨v, m⟩, ⟨lo, hi, sl, sh⟩⟩) = some x → x = (⟨⟨gv, gm⟩, ⟨gl, gh, gi, gj⟩⟩, ⟨⟨dv, dm⟩, ⟨dl, dh, di, dj⟩⟩)) := Lib.hid (pairO_get (by rw [E1]; exact getD_is hg) (by rw [E2]; exact getD_is hd))
  clear hg hgb hd hdb E1 E2 rA rX hr hx
  go_enter Try.func71, Try.ntmps71
  go_upto_region 1 with (fail)
  go_quiet (fail)
  go_upto_region 7 with (fail)
  go_upto_region 9 with (fail)
  generalize hw : World.setCell (World.setCell _ _ _) _ _ = w9
  have HA : Hid (w9.heap[w.heap.size]? = some (.cells #[.int .u64 v, .int .u64 m, .int .u64 lo, .int .u64 p, .int .i64 sl, .int .i64 sh] 28)) := Lib.hid (by rw [← hw]; exact sc_keep (set3of6 (by repeat (first | (with_reducible refine al_eq _ _ _ ?_; (simp only [size_alloc]; done)) | with_reducible refine al_keep ?_ _ | with_reducible refine dr_keep ?_ | with_reducible refine drN_keep ?_))) (by simp only [ne_eq]; omega))
  have HX : Hid (w9.heap[w.heap.size + 1]? = some (.cells #[.int .u64 xv, .int .u64 xm, .int .u64 r, .int .u64 xhi, .int .i64 xsl, .int .i64 xsh] 28)) := Lib.hid (by rw [← hw]; exact set2of6 (sc_keep (by repeat (first | (with_reducible refine al_eq _ _ _ ?_; (simp only [size_alloc]; done)) | with_reducible refine al_keep ?_ _ | with_reducible refine dr_keep ?_ | with_reducible refine drN_keep ?_)) (by simp only [ne_eq]; omega)))
  have HR : Hid (w9.heap[w.heap.size + 1 + 1]? = some (.cells #[.int .u64 0, .int .u64 0, .int .u64 0, .int .u64 0, .int .i64 0, .int .i64 0] 28)) := Lib.hid (by rw [← hw]; exact sc_keep (sc_keep (by repeat (first | (with_reducible refine al_eq _ _ _ ?_; (simp only [size_alloc]; done)) | with_reducible refine al_keep ?_ _ | with_reducible refine dr_keep ?_ | with_reducible refine drN_keep ?_)) (by simp only [ne_eq]; omega)) (by simp only [ne_eq]; omega))
  have HQ : Hid (w9.heap[w.heap.size + 1 + 1 + 1]? = some (.cells #[.int .u64 0, .int .u64 0, .int .u64 0, .int .u64 0, .int .i64 0, .int .i64 0] 28)) := Lib.hid (by rw [← hw]; exact sc_keep (sc_keep (by repeat (first | (with_reducible refine al_eq _ _ _ ?_; (simp only [size_alloc]; done)) | with_reducible refine al_keep ?_ _ | with_reducible refine dr_keep ?_ | with_reducible refine drN_keep ?_)) (by simp only [ne_eq]; omega)) (by simp only [ne_eq]; omega))
  have HB : Hid (But [] w w9) := Lib.hid (by rw [← hw]; refine But.setCell (But.setCell ?_ (.inr (by simp only []; omega)) _) (.inr (by simp only []; omega)) _; exact (by repeat (first | with_reducible exact But.refl _ _ | with_reducible refine But.drew ?_ | with_reducible refine drN_but ?_ | with_reducible refine But.alloc ?_ _)))
  clear hw m1 m2
  have hx := HA.out
  obtain ⟨cA0, cA1, cA2, cA3, cA4, cA5⟩ := c6_of hx
  have zA := lt_of hx
  clear hx
  go_wp2_with fail
  refine (G1.out _).mono ?_
  rintro e w10 ⟨rfl, hb⟩
  have HX := Lib.hid (hb.heap HX.out (by simp))
  have HR := Lib.hid (hb.heap HR.out (by simp))
  have HQ := Lib.hid (hb.heap HQ.out (by simp))
  have HB := Lib.hid (HB.out.trans hb (by simp))
  clear hb HA zA cA0 cA1 cA2 cA3 cA4 cA5
  have hz10 := lt_of HQ.out
  go_upto_region 10 with (fail)
  generalize hw : World.alloc w10 _ = w11
  have HM : Hid (w11.heap[w10.heap.size]? = some (.cells #[.int .u64 gv, .int .u64 gm, .int .u64 gl, .int .u64 gh, .int .i64 gi, .int .i64 gj] 28)) := Lib.hid (by rw [← hw]; exact al_at _ _)
  have HX := Lib.hid (show w11.heap[w.heap.size + 1]? = some (.cells #[.int .u64 xv, .int .u64 xm, .int .u64 r, .int .u64 xhi, .int .i64 xsl, .int .i64 xsh] 28) from by rw [← hw]; exact al_keep HX.out _)
  have HR := Lib.hid (show w11.heap[w.heap.size + 1 + 1]? = some (.cells #[.int .u64 0, .int .u64 0, .int .u64 0, .int .u64 0, .int .i64 0, .int .i64 0] 28) from by rw [← hw]; exact al_keep HR.out _)
  have HQ := Lib.hid (show w11.heap[w.heap.size + 1 + 1 + 1]? = some (.cells #[.int .u64 0, .int .u64 0, .int .u64 0, .int .u64 0, .int .i64 0, .int .i64 0] 28) from by rw [← hw]; exact al_keep HQ.out _)
  have HB := Lib.hid (show But [] w w11 from by rw [← hw]; exact HB.out.alloc _)
  clear hw
  have hx := HX.out
  obtain ⟨cX0, cX1, cX2, cX3, cX4, cX5⟩ := c6_of hx
  have zX := lt_of hx
  clear hx
  go_wp2_with fail
  refine (G2.out _).mono ?_
  rintro e w12 ⟨rfl, hb⟩
  have HM := Lib.hid (hb.heap HM.out (by simp))
  have HR := Lib.hid (hb.heap HR.out (by simp))
  have HQ := Lib.hid (hb.heap HQ.out (by simp))
  have HB := Lib.hid (HB.out.trans hb (by simp))
  clear hb HX zX cX0 cX1 cX2 cX3 cX4 cX5
  have hz12 := lt_of HQ.out
  go_upto_region 11 with (fail)
  generalize hw : World.alloc w12 _ = w13
  have HN : Hid (w13.heap[w12.heap.size]? = some (.cells #[.int .u64 dv, .int .u64 dm, .int .u64 dl, .int .u64 dh, .int .i64 di, .int .i64 dj] 28)) := Lib.hid (by rw [← hw]; exact al_at _ _)
  have HM := Lib.hid (show w13.heap[w10.heap.size]? = some (.cells #[.int .u64 gv, .int .u64 gm, .int .u64 gl, .int .u64 gh, .int .i64 gi, .int .i64 gj] 28) from by rw [← hw]; exact al_keep HM.out _)
  have HR := Lib.hid (show w13.heap[w.heap.size + 1 + 1]? = some (.cells #[.int .u64 0, .int .u64 0, .int .u64 0, .int .u64 0, .int .i64 0, .int .i64 0] 28) from by rw [← hw]; exact al_keep HR.out _)
  have HQ := Lib.hid (show w13.heap[w.heap.size + 1 + 1 + 1]? = some (.cells #[.int .u64 0, .int .u64 0, .int .u64 0, .int .u64 0, .int .i64 0, .int .i64 0] 28) from by rw [← hw]; exact al_keep HQ.out _)
  have HB := Lib.hid (show But [] w w13 from by rw [← hw]; exact HB.out.alloc _)
  clear hw
  have hx := HM.out
  obtain ⟨cM0, cM1, cM2, cM3, cM4, cM5⟩ := c6_of hx
  have zM := lt_of hx
  clear hx
  have hx := HN.out
  obtain ⟨cN0, cN1, cN2, cN3, cN4, cN5⟩ := c6_of hx
  have zN := lt_of hx
  clear hx
  have hx := HR.out
  obtain ⟨cR0, cR1, cR2, cR3, cR4, cR5⟩ := c6_of hx
  obtain ⟨fR0, fR1, fR2, fR3, fR4, fR5⟩ := f6_of hx
  have zR := lt_of hx
  clear hx
  have hx := HQ.out
  obtain ⟨cQ0, cQ1, cQ2, cQ3, cQ4, cQ5⟩ := c6_of hx
  obtain ⟨fQ0, fQ1, fQ2, fQ3, fQ4, fQ5⟩ := f6_of hx
  have zQ := lt_of hx
  clear hx
  skip
  cases gb with
  | false =>
    go_region
    all_goals (repeat (first | go_values | go_skip | go_guarded | go_step | go_upon))
    all_goals exact bodyPost_ret (v := .tuple #[.agg #[.int .u64 gv, .int .u64 gm, .int .u64 gl, .int .u64 gh, .int .i64 gi, .int .i64 gj], .agg #[.int .u64 dv, .int .u64 dm, .int .u64 dl, .int .u64 dh, .int .i64 di, .int .i64 dj], .bool false]) (by simp [results, Try.results71, go_sem, cR0, cR1, cR2, cR3, cR4, cR5, cQ0, cQ1, cQ2, cQ3, cQ4, cQ5]) rfl (PairPost.mk ⟨⟨gv, gm⟩, ⟨gl, gh, gi, gj⟩⟩ ⟨⟨dv, dm⟩, ⟨dl, dh, di, dj⟩⟩ (by rw [HE.out]; rfl) (HG.out) (by
    repeat (first | with_reducible exact HB.out | with_reducible refine But.alloc ?_ _ | with_reducible refine But.drew ?_ | (with_reducible refine But.setCell ?_ (.inr ?_) _; rotate_left; (simp only []; omega)))))
  | true =>
    cases db with
    | false =>
      go_region
      all_goals (repeat (first | go_values | go_skip | go_guarded | go_step | go_upon))
      all_goals exact bodyPost_ret (v := .tuple #[.agg #[.int .u64 gv, .int .u64 gm, .int .u64 gl, .int .u64 gh, .int .i64 gi, .int .i64 gj], .agg #[.int .u64 dv, .int .u64 dm, .int .u64 dl, .int .u64 dh, .int .i64 di, .int .i64 dj], .bool false]) (by simp [results, Try.results71, go_sem, cR0, cR1, cR2, cR3, cR4, cR5, cQ0, cQ1, cQ2, cQ3, cQ4, cQ5]) rfl (PairPost.mk ⟨⟨gv, gm⟩, ⟨gl, gh, gi, gj⟩⟩ ⟨⟨dv, dm⟩, ⟨dl, dh, di, dj⟩⟩ (by rw [HE.out]; rfl) (HG.out) (by
    repeat (first | with_reducible exact HB.out | with_reducible refine But.alloc ?_ _ | with_reducible refine But.drew ?_ | (with_reducible refine But.setCell ?_ (.inr ?_) _; rotate_left; (simp only []; omega)))))
    | true =>
      go_region
      all_goals (repeat (first | go_values | go_skip | go_guarded | go_step | go_upon))
      all_goals exact bodyPost_ret (v := .tuple #[.agg #[.int .u64 gv, .int .u64 gm, .int .u64 gl, .int .u64 gh, .int .i64 gi, .int .i64 gj], .agg #[.int .u64 dv, .int .u64 dm, .int .u64 dl, .int .u64 dh, .int .i64 di, .int .i64 dj], .bool true]) (by simp [results, Try.results71, go_sem, cR0, cR1, cR2, cR3, cR4, cR5, cQ0, cQ1, cQ2, cQ3, cQ4, cQ5]) rfl (PairPost.mk ⟨⟨gv, gm⟩, ⟨gl, gh, gi, gj⟩⟩ ⟨⟨dv, dm⟩, ⟨dl, dh, di, dj⟩⟩ (by rw [HE.out]; rfl) (HG.out) (by
    repeat (first | with_reducible exact HB.out | with_reducible refine But.alloc ?_ _ | with_reducible refine But.drew ?_ | (with_reducible refine But.setCell ?_ (.inr ?_) _; rotate_left; (simp only []; omega)))))
set_option maxRecDepth 100000 in
set_option maxHeartbeats 4000000 in
theorem r21less_false (v m lo hi xv xm xlo xhi : Nat) (sl sh xsl xsh : Int) (w : World) (hr : Rg ⟨⟨v, m⟩, ⟨lo, hi, sl, sh⟩⟩) (hx : Rg ⟨⟨xv, xm⟩, ⟨xlo, xhi, xsl, xsh⟩⟩) : Calls Try.prog 71 #[.agg #[.int .u64 v, .int .u64 m, .int .u64 lo, .int .u64 hi, .int .i64 sl, .int .i64 sh], .agg #[.int .u64 xv, .int .u64 xm, .int .u64 xlo, .int .u64 xhi, .int .i64 xsl, .int .i64 xsh], .bool false] w (PairPost (pairO (lowT false ⟨⟨v, m⟩, ⟨lo, hi, sl, sh⟩⟩ ⟨⟨xv, xm⟩, ⟨xlo, xhi, xsl, xsh⟩⟩) (uppT false ⟨⟨xv, xm⟩, ⟨xlo, xhi, xsl, xsh⟩⟩ ⟨⟨v, m⟩, ⟨lo, hi, sl, sh⟩⟩)) w) := by
  by_cases h1 : xhi = 0
  · have HE := Lib.hid (less_no (a := ⟨⟨v, m⟩, ⟨lo, hi, sl, sh⟩⟩) (b := ⟨⟨xv, xm⟩, ⟨xlo, xhi, xsl, xsh⟩⟩) (.inl h1))
    have t1 : ((xhi : Int) == 0) = true := by rw [beq_iff_eq]; omega
    clear h1 hr hx
    go_enter Try.func71, Try.ntmps71
    go_upto_region 1 with (fail)
    go_quiet (fail)
    go_upto_if 28 with (fail)
    generalize hw : World.drewN _ _ = w9
    have HR : Hid (w9.heap[w.heap.size + 1 + 1]? = some (.cells #[.int .u64 0, .int .u64 0, .int .u64 0, .int .u64 0, .int .i64 0, .int .i64 0] 28)) := Lib.hid (by rw [← hw]; exact (by repeat (first | (with_reducible refine al_eq _ _ _ ?_; (simp only [size_alloc]; done)) | with_reducible refine al_keep ?_ _ | with_reducible refine dr_keep ?_ | with_reducible refine drN_keep ?_)))
    have HQ : Hid (w9.heap[w.heap.size + 1 + 1 + 1]? = some (.cells #[.int .u64 0, .int .u64 0, .int .u64 0, .int .u64 0, .int .i64 0, .int .i64 0] 28)) := Lib.hid (by rw [← hw]; exact (by repeat (first | (with_reducible refine al_eq _ _ _ ?_; (simp only [size_alloc]; done)) | with_reducible refine al_keep ?_ _ | with_reducible refine dr_keep ?_ | with_reducible refine drN_keep ?_)))
    have HB : Hid (But [] w w9) := Lib.hid (by rw [← hw]; exact (by repeat (first | with_reducible exact But.refl _ _ | with_reducible refine But.drew ?_ | with_reducible refine drN_but ?_ | with_reducible refine But.alloc ?_ _)))
    clear hw
    have hx := HR.out
    obtain ⟨cR0, cR1, cR2, cR3, cR4, cR5⟩ := c6_of hx
    obtain ⟨fR0, fR1, fR2, fR3, fR4, fR5⟩ := f6_of hx
    have zR := lt_of hx
    clear hx
    have hx := HQ.out
    obtain ⟨cQ0, cQ1, cQ2, cQ3, cQ4, cQ5⟩ := c6_of hx
    obtain ⟨fQ0, fQ1, fQ2, fQ3, fQ4, fQ5⟩ := f6_of hx
    have zQ := lt_of hx
    clear hx
    all_goals (repeat (first | go_values | go_skip | go_guarded | go_step | go_upon))
    all_goals exact bodyPost_ret (v := .tuple #[.agg #[.int .u64 0, .int .u64 0, .int .u64 0, .int .u64 0, .int .i64 0, .int .i64 0], .agg #[.int .u64 0, .int .u64 0, .int .u64 0, .int .u64 0, .int .i64 0, .int .i64 0], .bool false]) (by simp [results, Try.results71, go_sem, cR0, cR1, cR2, cR3, cR4, cR5, cQ0, cQ1, cQ2, cQ3, cQ4, cQ5]) rfl (PairPost.mk zeroSc zeroSc (by rw [HE.out]; rfl) (fun x hx => by rw [HE.out] at hx; cases hx) (by
    repeat (first | with_reducible exact HB.out | with_reducible refine But.alloc ?_ _ | with_reducible refine But.drew ?_ | (with_reducible refine But.setCell ?_ (.inr ?_) _; rotate_left; (simp only []; omega)))))
  · by_cases h2 : lo = 18446744073709551615
    · have HE := Lib.hid (less_no (a := ⟨⟨v, m⟩, ⟨lo, hi, sl, sh⟩⟩) (b := ⟨⟨xv, xm⟩, ⟨xlo, xhi, xsl, xsh⟩⟩) (.inr h2))
      have t1 : ((xhi : Int) == 0) = false := by rw [beq_eq_false_iff_ne]; omega
      have t2 : ((lo : Int) == 18446744073709551615) = true := by rw [beq_iff_eq]; omega
      clear h1 h2 hr hx
      go_enter Try.func71, Try.ntmps71
      go_upto_region 1 with (fail)
      go_quiet (fail)
      go_upto_if 28 with (fail)
      generalize hw : World.drewN _ _ = w9
      have HR : Hid (w9.heap[w.heap.size + 1 + 1]? = some (.cells #[.int .u64 0, .int .u64 0, .int .u64 0, .int .u64 0, .int .i64 0, .int .i64 0] 28)) := Lib.hid (by rw [← hw]; exact (by repeat (first | (with_reducible refine al_eq _ _ _ ?_; (simp only [size_alloc]; done)) | with_reducible refine al_keep ?_ _ | with_reducible refine dr_keep ?_ | with_reducible refine drN_keep ?_)))
      have HQ : Hid (w9.heap[w.heap.size + 1 + 1 + 1]? = some (.cells #[.int .u64 0, .int .u64 0, .int .u64 0, .int .u64 0, .int .i64 0, .int .i64 0] 28)) := Lib.hid (by rw [← hw]; exact (by repeat (first | (with_reducible refine al_eq _ _ _ ?_; (simp only [size_alloc]; done)) | with_reducible refine al_keep ?_ _ | with_reducible refine dr_keep ?_ | with_reducible refine drN_keep ?_)))
      have HB : Hid (But [] w w9) := Lib.hid (by rw [← hw]; exact (by repeat (first | with_reducible exact But.refl _ _ | with_reducible refine But.drew ?_ | with_reducible refine drN_but ?_ | with_reducible refine But.alloc ?_ _)))
      clear hw
      have hx := HR.out
      obtain ⟨cR0, cR1, cR2, cR3, cR4, cR5⟩ := c6_of hx
      obtain ⟨fR0, fR1, fR2, fR3, fR4, fR5⟩ := f6_of hx
      have zR := lt_of hx
      clear hx
      have hx := HQ.out
      obtain ⟨cQ0, cQ1, cQ2, cQ3, cQ4, cQ5⟩ := c6_of hx
      obtain ⟨fQ0, fQ1, fQ2, fQ3, fQ4, fQ5⟩ := f6_of hx
      have zQ := lt_of hx
      clear hx
      all_goals (repeat (first | go_values | go_skip | go_guarded | go_step | go_upon))
      all_goals exact bodyPost_ret (v := .tuple #[.agg #[.int .u64 0, .int .u64 0, .int .u64 0, .int .u64 0, .int .i64 0, .int .i64 0], .agg #[.int .u64 0, .int .u64 0, .int .u64 0, .int .u64 0, .int .i64 0, .int .i64 0], .bool false]) (by simp [results, Try.results71, go_sem, cR0, cR1, cR2, cR3, cR4, cR5, cQ0, cQ1, cQ2, cQ3, cQ4, cQ5]) rfl (PairPost.mk zeroSc zeroSc (by rw [HE.out]; rfl) (fun x hx => by rw [HE.out] at hx; cases hx) (by
    repeat (first | with_reducible exact HB.out | with_reducible refine But.alloc ?_ _ | with_reducible refine But.drew ?_ | (with_reducible refine But.setCell ?_ (.inr ?_) _; rotate_left; (simp only []; omega)))))
    · obtain ⟨n, k, p, r, w1, w2, m1, m2, rA, rX, E1, E2⟩ := less_false hr hx h1 h2
      simp only at w1 w2 m1 m2 rA rX E1 E2
      obtain ⟨⟨⟨gv, gm⟩, ⟨gl, gh, gi, gj⟩⟩, hg⟩ : ∃ g : Sc, (ofT ⟨⟨v, m⟩, ⟨lo, p, sl, sh⟩⟩).getD zeroSc = g := ⟨_, rfl⟩
      obtain ⟨gb, hgb⟩ : ∃ b, (ofT ⟨⟨v, m⟩, ⟨lo, p, sl, sh⟩⟩).isSome = b := ⟨_, rfl⟩
      obtain ⟨⟨⟨dv, dm⟩, ⟨dl, dh, di, dj⟩⟩, hd⟩ : ∃ g : Sc, (ofT ⟨⟨xv, xm⟩, ⟨r, xhi, xsl, xsh⟩⟩).getD zeroSc = g := ⟨_, rfl⟩
      obtain ⟨db, hdb⟩ : ∃ b, (ofT ⟨⟨xv, xm⟩, ⟨r, xhi, xsl, xsh⟩⟩).isSome = b := ⟨_, rfl⟩
      have G1 := Lib.hid (fun w => r21of_v v m lo p gv gm gl gh sl sh gi gj gb rA hg hgb w)
      have G2 := Lib.hid (fun w => r21of_v xv xm r xhi dv dm dl dh xsl xsh di dj db rX hd hdb w)
      have HE : Hid ((pairO (lowT false ⟨⟨v, m⟩, ⟨lo, hi, sl, sh⟩⟩ ⟨⟨xv, xm⟩, ⟨xlo, xhi, xsl, xsh⟩⟩) (uppT false ⟨⟨xv, xm⟩, ⟨xlo, xhi, xsl, xsh⟩⟩ ⟨⟨v, m⟩, ⟨lo, hi, sl, sh⟩⟩)).isSome = (gb && db)) := Lib.hid (by rw [pairO_is, E1, E2, hgb, hdb])
      have HG : Hid (∀ x, pairO (lowT false ⟨⟨v, m⟩, ⟨lo, hi, sl, sh⟩⟩ ⟨⟨xv, xm⟩, ⟨xlo, xhi, xsl, xsh⟩⟩) (uppT false ⟨⟨xv, xm⟩, ⟨xlo, xhi, xsl, xsh⟩⟩ ⟨⟨v, m⟩, ⟨lo, hi, sl, sh⟩⟩) = some x → x = (⟨⟨gv, gm⟩, ⟨gl, gh, gi, gj⟩⟩, ⟨⟨dv, dm⟩, ⟨dl, dh, di, dj⟩⟩)) := Lib.hid (pairO_get (by rw [E1]; exact getD_is hg) (by rw [E2]; exact getD_is hd))
      clear hg hgb hd hdb E1 E2 rA rX hr hx
      have t1 : ((xhi : Int) == 0) = false := by rw [beq_eq_false_iff_ne]; omega
      have t2 : ((lo : Int) == 18446744073709551615) = false := by rw [beq_eq_false_iff_ne]; omega
      clear h1 h2
      go_enter Try.func71, Try.ntmps71
      go_upto_region 1 with (fail)
      go_quiet (fail)
      go_upto_region 7 with (fail)
      go_upto_region 9 with (fail)
      generalize hw : World.setCell (World.setCell _ _ _) _ _ = w9
      have HA : Hid (w9.heap[w.heap.size]? = some (.cells #[.int .u64 v, .int .u64 m, .int .u64 lo, .int .u64 p, .int .i64 sl, .int .i64 sh] 28)) := Lib.hid (by rw [← hw]; exact sc_keep (set3of6 (by repeat (first | (with_reducible refine al_eq _ _ _ ?_; (simp only [size_alloc]; done)) | with_reducible refine al_keep ?_ _ | with_reducible refine dr_keep ?_ | with_reducible refine drN_keep ?_))) (by simp only [ne_eq]; omega))
      have HX : Hid (w9.heap[w.heap.size + 1]? = some (.cells #[.int .u64 xv, .int .u64 xm, .int .u64 r, .int .u64 xhi, .int .i64 xsl, .int .i64 xsh] 28)) := Lib.hid (by rw [← hw]; exact set2of6 (sc_keep (by repeat (first | (with_reducible refine al_eq _ _ _ ?_; (simp only [size_alloc]; done)) | with_reducible refine al_keep ?_ _ | with_reducible refine dr_keep ?_ | with_reducible refine drN_keep ?_)) (by simp only [ne_eq]; omega)))
      have HR : Hid (w9.heap[w.heap.size + 1 + 1]? = some (.cells #[.int .u64 0, .int .u64 0, .int .u64 0, .int .u64 0, .int .i64 0, .int .i64 0] 28)) := Lib.hid (by rw [← hw]; exact sc_keep (sc_keep (by repeat (first | (with_reducible refine al_eq _ _ _ ?_; (simp only [size_alloc]; done)) | with_reducible refine al_keep ?_ _ | with_reducible refine dr_keep ?_ | with_reducible refine drN_keep ?_)) (by simp only [ne_eq]; omega)) (by simp only [ne_eq]; omega))
      have HQ : Hid (w9.heap[w.heap.size + 1 + 1 + 1]? = some (.cells #[.int .u64 0, .int .u64 0, .int .u64 0, .int .u64 0, .int .i64 0, .int .i64 0] 28)) := Lib.hid (by rw [← hw]; exact sc_keep (sc_keep (by repeat (first | (with_reducible refine al_eq _ _ _ ?_; (simp only [size_alloc]; done)) | with_reducible refine al_keep ?_ _ | with_reducible refine dr_keep ?_ | with_reducible refine drN_keep ?_)) (by simp only [ne_eq]; omega)) (by simp only [ne_eq]; omega))
      have HB : Hid (But [] w w9) := Lib.hid (by rw [← hw]; refine But.setCell (But.setCell ?_ (.inr (by simp only []; omega)) _) (.inr (by simp only []; omega)) _; exact (by repeat (first | with_reducible exact But.refl _ _ | with_reducible refine But.drew ?_ | with_reducible refine drN_but ?_ | with_reducible refine But.alloc ?_ _)))
      clear hw m1 m2 t1 t2 w1 w2
      have hx := HA.out
      obtain ⟨cA0, cA1, cA2, cA3, cA4, cA5⟩ := c6_of hx
      have zA := lt_of hx
      clear hx
      go_wp2_with fail
      refine (G1.out _).mono ?_
      rintro e w10 ⟨rfl, hb⟩
      have HX := Lib.hid (hb.heap HX.out (by simp))
      have HR := Lib.hid (hb.heap HR.out (by simp))
      have HQ := Lib.hid (hb.heap HQ.out (by simp))
      have HB := Lib.hid (HB.out.trans hb (by simp))
      clear hb HA zA cA0 cA1 cA2 cA3 cA4 cA5
      have hz10 := lt_of HQ.out
      go_upto_region 10 with (fail)
      generalize hw : World.alloc w10 _ = w11
      have HM : Hid (w11.heap[w10.heap.size]? = some (.cells #[.int .u64 gv, .int .u64 gm, .int .u64 gl, .int .u64 gh, .int .i64 gi, .int .i64 gj] 28)) := Lib.hid (by rw [← hw]; exact al_at _ _)
      have HX := Lib.hid (show w11.heap[w.heap.size + 1]? = some (.cells #[.int .u64 xv, .int .u64 xm, .int .u64 r, .int .u64 xhi, .int .i64 xsl, .int .i64 xsh] 28) from by rw [← hw]; exact al_keep HX.out _)
      have HR := Lib.hid (show w11.heap[w.heap.size + 1 + 1]? = some (.cells #[.int .u64 0, .int .u64 0, .int .u64 0, .int .u64 0, .int .i64 0, .int .i64 0] 28) from by rw [← hw]; exact al_keep HR.out _)
      have HQ := Lib.hid (show w11.heap[w.heap.size + 1 + 1 + 1]? = some (.cells #[.int .u64 0, .int .u64 0, .int .u64 0, .int .u64 0, .int .i64 0, .int .i64 0] 28) from by rw [← hw]; exact al_keep HQ.out _)
      have HB := Lib.hid (show But [] w w11 from by rw [← hw]; exact HB.out.alloc _)
      clear hw
      have hx := HX.out
      obtain ⟨cX0, cX1, cX2, cX3, cX4, cX5⟩ := c6_of hx
      have zX := lt_of hx
      clear hx
      go_wp2_with fail
      refine (G2.out _).mono ?_
      rintro e w12 ⟨rfl, hb⟩
      have HM := Lib.hid (hb.heap HM.out (by simp))
      have HR := Lib.hid (hb.heap HR.out (by simp))
      have HQ := Lib.hid (hb.heap HQ.out (by simp))
      have HB := Lib.hid (HB.out.trans hb (by simp))
      clear hb HX zX cX0 cX1 cX2 cX3 cX4 cX5
      have hz12 := lt_of HQ.out
      go_upto_region 11 with (fail)
      generalize hw : World.alloc w12 _ = w13
      have HN : Hid (w13.heap[w12.heap.size]? = some (.cells #[.int .u64 dv, .int .u64 dm, .int .u64 dl, .int .u64 dh, .int .i64 di, .int .i64 dj] 28)) := Lib.hid (by rw [← hw]; exact al_at _ _)
      have HM := Lib.hid (show w13.heap[w10.heap.size]? = some (.cells #[.int .u64 gv, .int .u64 gm, .int .u64 gl, .int .u64 gh, .int .i64 gi, .int .i64 gj] 28) from by rw [← hw]; exact al_keep HM.out _)
      have HR := Lib.hid (show w13.heap[w.heap.size + 1 + 1]? = some (.cells #[.int .u64 0, .int .u64 0, .int .u64 0, .int .u64 0, .int .i64 0, .int .i64 0] 28) from by rw [← hw]; exact al_keep HR.out _)
      have HQ := Lib.hid (show w13.heap[w.heap.size + 1 + 1 + 1]? = some (.cells #[.int .u64 0, .int .u64 0, .int .u64 0, .int .u64 0, .int .i64 0, .int .i64 0] 28) from by rw [← hw]; exact al_keep HQ.out _)
      have HB := Lib.hid (show But [] w w13 from by rw [← hw]; exact HB.out.alloc _)
      clear hw
      have hx := HM.out
      obtain ⟨cM0, cM1, cM2, cM3, cM4, cM5⟩ := c6_of hx
      have zM := lt_of hx
      clear hx
      have hx := HN.out
      obtain ⟨cN0, cN1, cN2, cN3, cN4, cN5⟩ := c6_of hx
      have zN := lt_of hx
      clear hx
      have hx := HR.out
      obtain ⟨cR0, cR1, cR2, cR3, cR4, cR5⟩ := c6_of hx
      obtain ⟨fR0, fR1, fR2, fR3, fR4, fR5⟩ := f6_of hx
      have zR := lt_of hx
      clear hx
      have hx := HQ.out
      obtain ⟨cQ0, cQ1, cQ2, cQ3, cQ4, cQ5⟩ := c6_of hx
      obtain ⟨fQ0, fQ1, fQ2, fQ3, fQ4, fQ5⟩ := f6_of hx
      have zQ := lt_of hx
      clear hx
      skip
      cases gb with
      | false =>
        go_region
        all_goals (repeat (first | go_values | go_skip | go_guarded | go_step | go_upon))
        all_goals exact bodyPost_ret (v := .tuple #[.agg #[.int .u64 gv, .int .u64 gm, .int .u64 gl, .int .u64 gh, .int .i64 gi, .int .i64 gj], .agg #[.int .u64 dv, .int .u64 dm, .int .u64 dl, .int .u64 dh, .int .i64 di, .int .i64 dj], .bool false]) (by simp [results, Try.results71, go_sem, cR0, cR1, cR2, cR3, cR4, cR5, cQ0, cQ1, cQ2, cQ3, cQ4, cQ5]) rfl (PairPost.mk ⟨⟨gv, gm⟩, ⟨gl, gh, gi, gj⟩⟩ ⟨⟨dv, dm⟩, ⟨dl, dh, di, dj⟩⟩ (by rw [HE.out]; rfl) (HG.out) (by
    repeat (first | with_reducible exact HB.out | with_reducible refine But.alloc ?_ _ | with_reducible refine But.drew ?_ | (with_reducible refine But.setCell ?_ (.inr ?_) _; rotate_left; (simp only []; omega)))))
      | true =>
        cases db with
        | false =>
          go_region
          all_goals (repeat (first | go_values | go_skip | go_guarded | go_step | go_upon))
          all_goals exact bodyPost_ret (v := .tuple #[.agg #[.int .u64 gv, .int .u64 gm, .int .u64 gl, .int .u64 gh, .int .i64 gi, .int .i64 gj], .agg #[.int .u64 dv, .int .u64 dm, .int .u64 dl, .int .u64 dh, .int .i64 di, .int .i64 dj], .bool false]) (by simp [results, Try.results71, go_sem, cR0, cR1, cR2, cR3, cR4, cR5, cQ0, cQ1, cQ2, cQ3, cQ4, cQ5]) rfl (PairPost.mk ⟨⟨gv, gm⟩, ⟨gl, gh, gi, gj⟩⟩ ⟨⟨dv, dm⟩, ⟨dl, dh, di, dj⟩⟩ (by rw [HE.out]; rfl) (HG.out) (by
    repeat (first | with_reducible exact HB.out | with_reducible refine But.alloc ?_ _ | with_reducible refine But.drew ?_ | (with_reducible refine But.setCell ?_ (.inr ?_) _; rotate_left; (simp only []; omega)))))
        | true =>
          go_region
          all_goals (repeat (first | go_values | go_skip | go_guarded | go_step | go_upon))
          all_goals exact bodyPost_ret (v := .tuple #[.agg #[.int .u64 gv, .int .u64 gm, .int .u64 gl, .int .u64 gh, .int .i64 gi, .int .i64 gj], .agg #[.int .u64 dv, .int .u64 dm, .int .u64 dl, .int .u64 dh, .int .i64 di, .int .i64 dj], .bool true]) (by simp [results, Try.results71, go_sem, cR0, cR1, cR2, cR3, cR4, cR5, cQ0, cQ1, cQ2, cQ3, cQ4, cQ5]) rfl (PairPost.mk ⟨⟨gv, gm⟩, ⟨gl, gh, gi, gj⟩⟩ ⟨⟨dv, dm⟩, ⟨dl, dh, di, dj⟩⟩ (by rw [HE.out]; rfl) (HG.out) (by
    repeat (first | with_reducible exact HB.out | with_reducible refine But.alloc ?_ _ | with_reducible refine But.drew ?_ | (with_reducible refine But.setCell ?_ (.inr ?_) _; rotate_left; (simp only []; omega)))))
set_option maxRecDepth 100000 in
set_option maxHeartbeats 4000000 in
theorem r21under_true (v m lo hi xv xm xlo xhi : Nat) (sl sh xsl xsh : Int) (w : World) (hr : Rg ⟨⟨v, m⟩, ⟨lo, hi, sl, sh⟩⟩) (hx : Rg ⟨⟨xv, xm⟩, ⟨xlo, xhi, xsl, xsh⟩⟩) : Calls Try.prog 72 #[.agg #[.int .u64 v, .int .u64 m, .int .u64 lo, .int .u64 hi, .int .i64 sl, .int .i64 sh], .agg #[.int .u64 xv, .int .u64 xm, .int .u64 xlo, .int .u64 xhi, .int .i64 xsl, .int .i64 xsh], .bool true] w (PairPost (pairO (lesT true ⟨⟨v, m⟩, ⟨lo, hi, sl, sh⟩⟩ ⟨⟨xv, xm⟩, ⟨xlo, xhi, xsl, xsh⟩⟩) (morT true ⟨⟨xv, xm⟩, ⟨xlo, xhi, xsl, xsh⟩⟩ ⟨⟨v, m⟩, ⟨lo, hi, sl, sh⟩⟩)) w) := by
  obtain ⟨p, r, m1, m2, rA, rX, E1, E2⟩ := under_true hr hx
  simp only at m1 m2 rA rX E1 E2
  obtain ⟨⟨⟨gv, gm⟩, ⟨gl, gh, gi, gj⟩⟩, hg⟩ : ∃ g : Sc, (ofT ⟨⟨v, m⟩, ⟨lo, hi, sl, p⟩⟩).getD zeroSc = g := ⟨_, rfl⟩
  obtain ⟨gb, hgb⟩ : ∃ b, (ofT ⟨⟨v, m⟩, ⟨lo, hi, sl, p⟩⟩).isSome = b := ⟨_, rfl⟩
  obtain ⟨⟨⟨dv, dm⟩, ⟨dl, dh, di, dj⟩⟩, hd⟩ : ∃ g : Sc, (ofT ⟨⟨xv, xm⟩, ⟨xlo, xhi, r, xsh⟩⟩).getD zeroSc = g := ⟨_, rfl⟩
  obtain ⟨db, hdb⟩ : ∃ b, (ofT ⟨⟨xv, xm⟩, ⟨xlo, xhi, r, xsh⟩⟩).isSome = b := ⟨_, rfl⟩
  have G1 := Lib.hid (fun w => r21of_v v m lo hi gv gm gl gh sl p gi gj gb rA hg hgb w)
  have G2 := Lib.hid (fun w => r21of_v xv xm xlo xhi dv dm dl dh r xsh di dj db rX hd hdb w)
  have HE : Hid ((pairO (lesT true ⟨⟨v, m⟩, ⟨lo, hi, sl, sh⟩⟩ ⟨⟨xv, xm⟩, ⟨xlo, xhi, xsl, xsh⟩⟩) (morT true ⟨⟨xv, xm⟩, ⟨xlo, xhi, xsl, xsh⟩⟩ ⟨⟨v, m⟩, ⟨lo, hi, sl, sh⟩⟩)).isSome = (gb && db)) := Lib.hid (by rw [pairO_is, E1, E2, hgb, hdb])
  have HG : Hid (∀ x, pairO (lesT true ⟨⟨v, m⟩, ⟨lo, hi, sl, sh⟩⟩ ⟨⟨xv, xm⟩, ⟨xlo, xhi, xsl, xsh⟩⟩) (morT true ⟨⟨xv, xm⟩, ⟨xlo, xhi, xsl, xsh⟩⟩ ⟨⟨v, m⟩, ⟨lo, hi, sl, sh⟩⟩) = some x → x = (⟨⟨gv, gm⟩, ⟨gl, gh, gi, gj⟩⟩, ⟨⟨dv, dm⟩, ⟨dl, dh, di, dj⟩⟩)) := Lib.hid (pairO_get (by rw [E1]; exact getD_is hg) (by rw [E2]; exact getD_is hd))
  clear hg hgb hd hdb E1 E2 rA rX hr hx
  go_enter Try.func72, Try.ntmps72
  go_upto_region 1 with (fail)
  go_quiet (fail)
  go_upto_region 7 with (fail)
  go_upto_region 9 with (fail)
  generalize hw : World.setCell (World.setCell _ _ _) _ _ = w9
  have HA : Hid (w9.heap[w.heap.size]? = some (.cells #[.int .u64 v, .int .u64 m, .int .u64 lo, .int .u64 hi, .int .i64 sl, .int .i64 p] 28)) := Lib.hid (by rw [← hw]; exact sc_keep (set5of6 (by repeat (first | (with_reducible refine al_eq _ _ _ ?_; (simp only [size_alloc]; done)) | with_reducible refine al_keep ?_ _ | with_reducible refine dr_keep ?_ | with_reducible refine drN_keep ?_))) (by simp only [ne_eq]; omega))
  have HX : Hid (w9.heap[w.heap.size + 1]? = some (.cells #[.int .u64 xv, .int .u64 xm, .int .u64 xlo, .int .u64 xhi, .int .i64 r, .int .i64 xsh] 28)) := Lib.hid (by rw [← hw]; exact set4of6 (sc_keep (by repeat (first | (with_reducible refine al_eq _ _ _ ?_; (simp only [size_alloc]; done)) | with_reducible refine al_keep ?_ _ | with_reducible refine dr_keep ?_ | with_reducible refine drN_keep ?_)) (by simp only [ne_eq]; omega)))
  have HR : Hid (w9.heap[w.heap.size + 1 + 1]? = some (.cells #[.int .u64 0, .int .u64 0, .int .u64 0, .int .u64 0, .int .i64 0, .int .i64 0] 28)) := Lib.hid (by rw [← hw]; exact sc_keep (sc_keep (by repeat (first | (with_reducible refine al_eq _ _ _ ?_; (simp only [size_alloc]; done)) | with_reducible refine al_keep ?_ _ | with_reducible refine dr_keep ?_ | with_reducible refine drN_keep ?_)) (by simp only [ne_eq]; omega)) (by simp only [ne_eq]; omega))
  have HQ : Hid (w9.heap[w.heap.size + 1 + 1 + 1]? = some (.cells #[.int .u64 0, .int .u64 0, .int .u64 0, .int .u64 0, .int .i64 0, .int .i64 0] 28)) := Lib.hid (by rw [← hw]; exact sc_keep (sc_keep (by repeat (first | (with_reducible refine al_eq _ _ _ ?_; (simp only [size_alloc]; done)) | with_reducible refine al_keep ?_ _ | with_reducible refine dr_keep ?_ | with_reducible refine drN_keep ?_)) (by simp only [ne_eq]; omega)) (by simp only [ne_eq]; omega))
  have HB : Hid (But [] w w9) := Lib.hid (by rw [← hw]; refine But.setCell (But.setCell ?_ (.inr (by simp only []; omega)) _) (.inr (by simp only []; omega)) _; exact (by repeat (first | with_reducible exact But.refl _ _ | with_reducible refine But.drew ?_ | with_reducible refine drN_but ?_ | with_reducible refine But.alloc ?_ _)))
  clear hw m1 m2
  have hx := HA.out
  obtain ⟨cA0, cA1, cA2, cA3, cA4, cA5⟩ := c6_of hx
  have zA := lt_of hx
  clear hx
  go_wp2_with fail
  refine (G1.out _).mono ?_
  rintro e w10 ⟨rfl, hb⟩
  have HX := Lib.hid (hb.heap HX.out (by simp))
  have HR := Lib.hid (hb.heap HR.out (by simp))
  have HQ := Lib.hid (hb.heap HQ.out (by simp))
  have HB := Lib.hid (HB.out.trans hb (by simp))
  clear hb HA zA cA0 cA1 cA2 cA3 cA4 cA5
  have hz10 := lt_of HQ.out
  go_upto_region 10 with (fail)
  generalize hw : World.alloc w10 _ = w11
  have HM : Hid (w11.heap[w10.heap.size]? = some (.cells #[.int .u64 gv, .int .u64 gm, .int .u64 gl, .int .u64 gh, .int .i64 gi, .int .i64 gj] 28)) := Lib.hid (by rw [← hw]; exact al_at _ _)
  have HX := Lib.hid (show w11.heap[w.heap.size + 1]? = some (.cells #[.int .u64 xv, .int .u64 xm, .int .u64 xlo, .int .u64 xhi, .int .i64 r, .int .i64 xsh] 28) from by rw [← hw]; exact al_keep HX.out _)
  have HR := Lib.hid (show w11.heap[w.heap.size + 1 + 1]? = some (.cells #[.int .u64 0, .int .u64 0, .int .u64 0, .int .u64 0, .int .i64 0, .int .i64 0] 28) from by rw [← hw]; exact al_keep HR.out _)
  have HQ := Lib.hid (show w11.heap[w.heap.size + 1 + 1 + 1]? = some (.cells #[.int .u64 0, .int .u64 0, .int .u64 0, .int .u64 0, .int .i64 0, .int .i64 0] 28) from by rw [← hw]; exact al_keep HQ.out _)
  have HB := Lib.hid (show But [] w w11 from by rw [← hw]; exact HB.out.alloc _)
  clear hw
  have hx := HX.out
  obtain ⟨cX0, cX1, cX2, cX3, cX4, cX5⟩ := c6_of hx
  have zX := lt_of hx
  clear hx
  go_wp2_with fail
  refine (G2.out _).mono ?_
  rintro e w12 ⟨rfl, hb⟩
  have HM := Lib.hid (hb.heap HM.out (by simp))
  have HR := Lib.hid (hb.heap HR.out (by simp))
  have HQ := Lib.hid (hb.heap HQ.out (by simp))
  have HB := Lib.hid (HB.out.trans hb (by simp))
  clear hb HX zX cX0 cX1 cX2 cX3 cX4 cX5
  have hz12 := lt_of HQ.out
  go_upto_region 11 with (fail)
  generalize hw : World.alloc w12 _ = w13
  have HN : Hid (w13.heap[w12.heap.size]? = some (.cells #[.int .u64 dv, .int .u64 dm, .int .u64 dl, .int .u64 dh, .int .i64 di, .int .i64 dj] 28)) := Lib.hid (by rw [← hw]; exact al_at _ _)
  have HM := Lib.hid (show w13.heap[w10.heap.size]? = some (.cells #[.int .u64 gv, .int .u64 gm, .int .u64 gl, .int .u64 gh, .int .i64 gi, .int .i64 gj] 28) from by rw [← hw]; exact al_keep HM.out _)
  have HR := Lib.hid (show w13.heap[w.heap.size + 1 + 1]? = some (.cells #[.int .u64 0, .int .u64 0, .int .u64 0, .int .u64 0, .int .i64 0, .int .i64 0] 28) from by rw [← hw]; exact al_keep HR.out _)
  have HQ := Lib.hid (show w13.heap[w.heap.size + 1 + 1 + 1]? = some (.cells #[.int .u64 0, .int .u64 0, .int .u64 0, .int .u64 0, .int .i64 0, .int .i64 0] 28) from by rw [← hw]; exact al_keep HQ.out _)
  have HB := Lib.hid (show But [] w w13 from by rw [← hw]; exact HB.out.alloc _)
  clear hw
  have hx := HM.out
  obtain ⟨cM0, cM1, cM2, cM3, cM4, cM5⟩ := c6_of hx
  have zM := lt_of hx
  clear hx
  have hx := HN.out
  obtain ⟨cN0, cN1, cN2, cN3, cN4, cN5⟩ := c6_of hx
  have zN := lt_of hx
  clear hx
  have hx := HR.out
  obtain ⟨cR0, cR1, cR2, cR3, cR4, cR5⟩ := c6_of hx
  obtain ⟨fR0, fR1, fR2, fR3, fR4, fR5⟩ := f6_of hx
  have zR := lt_of hx
  clear hx
  have hx := HQ.out
  obtain ⟨cQ0, cQ1, cQ2, cQ3, cQ4, cQ5⟩ := c6_of hx
  obtain ⟨fQ0, fQ1, fQ2, fQ3, fQ4, fQ5⟩ := f6_of hx
  have zQ := lt_of hx
  clear hx
  skip
  cases gb with
  | false =>
    go_region
    all_goals (repeat (first | go_values | go_skip | go_guarded | go_step | go_upon))
    all_goals exact bodyPost_ret (v := .tuple #[.agg #[.int .u64 gv, .int .u64 gm, .int .u64 gl, .int .u64 gh, .int .i64 gi, .int .i64 gj], .agg #[.int .u64 dv, .int .u64 dm, .int .u64 dl, .int .u64 dh, .int .i64 di, .int .i64 dj], .bool false]) (by simp [results, Try.results72, go_sem, cR0, cR1, cR2, cR3, cR4, cR5, cQ0, cQ1, cQ2, cQ3, cQ4, cQ5]) rfl (PairPost.mk ⟨⟨gv, gm⟩, ⟨gl, gh, gi, gj⟩⟩ ⟨⟨dv, dm⟩, ⟨dl, dh, di, dj⟩⟩ (by rw [HE.out]; rfl) (HG.out) (by
    repeat (first | with_reducible exact HB.out | with_reducible refine But.alloc ?_ _ | with_reducible refine But.drew ?_ | (with_reducible refine But.setCell ?_ (.inr ?_) _; rotate_left; (simp only []; omega)))))
  | true =>
    cases db with
    | false =>
      go_region
      all_goals (repeat (first | go_values | go_skip | go_guarded | go_step | go_upon))
      all_goals exact bodyPost_ret (v := .tuple #[.agg #[.int .u64 gv, .int .u64 gm, .int .u64 gl, .int .u64 gh, .int .i64 gi, .int .i64 gj], .agg #[.int .u64 dv, .int .u64 dm, .int .u64 dl, .int .u64 dh, .int .i64 di, .int .i64 dj], .bool false]) (by simp [results, Try.results72, go_sem, cR0, cR1, cR2, cR3, cR4, cR5, cQ0, cQ1, cQ2, cQ3, cQ4, cQ5]) rfl (PairPost.mk ⟨⟨gv, gm⟩, ⟨gl, gh, gi, gj⟩⟩ ⟨⟨dv, dm⟩, ⟨dl, dh, di, dj⟩⟩ (by rw [HE.out]; rfl) (HG.out) (by
    repeat (first | with_reducible exact HB.out | with_reducible refine But.alloc ?_ _ | with_reducible refine But.drew ?_ | (with_reducible refine But.setCell ?_ (.inr ?_) _; rotate_left; (simp only []; omega)))))
    | true =>
      go_region
      all_goals (repeat (first | go_values | go_skip | go_guarded | go_step | go_upon))
      all_goals exact bodyPost_ret (v := .tuple #[.agg #[.int .u64 gv, .int .u64 gm, .int .u64 gl, .int .u64 gh, .int .i64 gi, .int .i64 gj], .agg #[.int .u64 dv, .int .u64 dm, .int .u64 dl, .int .u64 dh, .int .i64 di, .int .i64 dj], .bool true]) (by simp [results, Try.results72, go_sem, cR0, cR1, cR2, cR3, cR4, cR5, cQ0, cQ1, cQ2, cQ3, cQ4, cQ5]) rfl (PairPost.mk ⟨⟨gv, gm⟩, ⟨gl, gh, gi, gj⟩⟩ ⟨⟨dv, dm⟩, ⟨dl, dh, di, dj⟩⟩ (by rw [HE.out]; rfl) (HG.out) (by
    repeat (first | with_reducible exact HB.out | with_reducible refine But.alloc ?_ _ | with_reducible refine But.drew ?_ | (with_reducible refine But.setCell ?_ (.inr ?_) _; rotate_left; (simp only []; omega)))))
set_option maxRecDepth 100000 in
set_option maxHeartbeats 4000000 in
theorem r21under_false (v m lo hi xv xm xlo xhi : Nat) (sl sh xsl xsh : Int) (w : World) (hr : Rg ⟨⟨v, m⟩, ⟨lo, hi, sl, sh⟩⟩) (hx : Rg ⟨⟨xv, xm⟩, ⟨xlo, xhi, xsl, xsh⟩⟩) (b1 : -9223372036854775808 ≤ xsh) (b2 : sl ≤ 9223372036854775807) : Calls Try.prog 72 #[.agg #[.int .u64 v, .int .u64 m, .int .u64 lo, .int .u64 hi, .int .i64 sl, .int .i64 sh], .agg #[.int .u64 xv, .int .u64 xm, .int .u64 xlo, .int .u64 xhi, .int .i64 xsl, .int .i64 xsh], .bool false] w (PairPost (pairO (lesT false ⟨⟨v, m⟩, ⟨lo, hi, sl, sh⟩⟩ ⟨⟨xv, xm⟩, ⟨xlo, xhi, xsl, xsh⟩⟩) (morT false ⟨⟨xv, xm⟩, ⟨xlo, xhi, xsl, xsh⟩⟩ ⟨⟨v, m⟩, ⟨lo, hi, sl, sh⟩⟩)) w) := by
  by_cases h1 : xsh = -9223372036854775808
  · have HE := Lib.hid (under_no (a := ⟨⟨v, m⟩, ⟨lo, hi, sl, sh⟩⟩) (b := ⟨⟨xv, xm⟩, ⟨xlo, xhi, xsl, xsh⟩⟩) (.inl h1))
    have t1 : ((xsh : Int) == (-9223372036854775808)) = true := by rw [beq_iff_eq]; exact h1
    clear h1 hr hx b1 b2
    go_enter Try.func72, Try.ntmps72
    go_upto_region 1 with (fail)
    go_quiet (fail)
    go_upto_if 28 with (fail)
    generalize hw : World.drewN _ _ = w9
    have HR : Hid (w9.heap[w.heap.size + 1 + 1]? = some (.cells #[.int .u64 0, .int .u64 0, .int .u64 0, .int .u64 0, .int .i64 0, .int .i64 0] 28)) := Lib.hid (by rw [← hw]; exact (by repeat (first | (with_reducible refine al_eq _ _ _ ?_; (simp only [size_alloc]; done)) | with_reducible refine al_keep ?_ _ | with_reducible refine dr_keep ?_ | with_reducible refine drN_keep ?_)))
    have HQ : Hid (w9.heap[w.heap.size + 1 + 1 + 1]? = some (.cells #[.int .u64 0, .int .u64 0, .int .u64 0, .int .u64 0, .int .i64 0, .int .i64 0] 28)) := Lib.hid (by rw [← hw]; exact (by repeat (first | (with_reducible refine al_eq _ _ _ ?_; (simp only [size_alloc]; done)) | with_reducible refine al_keep ?_ _ | with_reducible refine dr_keep ?_ | with_reducible refine drN_keep ?_)))
    have HB : Hid (But [] w w9) := Lib.hid (by rw [← hw]; exact (by repeat (first | with_reducible exact But.refl _ _ | with_reducible refine But.drew ?_ | with_reducible refine drN_but ?_ | with_reducible refine But.alloc ?_ _)))
    clear hw
    have hx := HR.out
    obtain ⟨cR0, cR1, cR2, cR3, cR4, cR5⟩ := c6_of hx
    obtain ⟨fR0, fR1, fR2, fR3, fR4, fR5⟩ := f6_of hx
    have zR := lt_of hx
    clear hx
    have hx := HQ.out
    obtain ⟨cQ0, cQ1, cQ2, cQ3, cQ4, cQ5⟩ := c6_of hx
    obtain ⟨fQ0, fQ1, fQ2, fQ3, fQ4, fQ5⟩ := f6_of hx
    have zQ := lt_of hx
    clear hx
    all_goals (repeat (first | go_values | go_skip | go_guarded | go_step | go_upon))
    all_goals exact bodyPost_ret (v := .tuple #[.agg #[.int .u64 0, .int .u64 0, .int .u64 0, .int .u64 0, .int .i64 0, .int .i64 0], .agg #[.int .u64 0, .int .u64 0, .int .u64 0, .int .u64 0, .int .i64 0, .int .i64 0], .bool false]) (by simp [results, Try.results72, go_sem, cR0, cR1, cR2, cR3, cR4, cR5, cQ0, cQ1, cQ2, cQ3, cQ4, cQ5]) rfl (PairPost.mk zeroSc zeroSc (by rw [HE.out]; rfl) (fun x hx => by rw [HE.out] at hx; cases hx) (by
    repeat (first | with_reducible exact HB.out | with_reducible refine But.alloc ?_ _ | with_reducible refine But.drew ?_ | (with_reducible refine But.setCell ?_ (.inr ?_) _; rotate_left; (simp only []; omega)))))
  · by_cases h2 : sl = 9223372036854775807
    · have HE := Lib.hid (under_no (a := ⟨⟨v, m⟩, ⟨lo, hi, sl, sh⟩⟩) (b := ⟨⟨xv, xm⟩, ⟨xlo, xhi, xsl, xsh⟩⟩) (.inr h2))
      have t1 : ((xsh : Int) == (-9223372036854775808)) = false := by rw [beq_eq_false_iff_ne]; exact h1
      have t2 : ((sl : Int) == 9223372036854775807) = true := by rw [beq_iff_eq]; exact h2
      clear h1 h2 hr hx b1 b2
      go_enter Try.func72, Try.ntmps72
      go_upto_region 1 with (fail)
      go_quiet (fail)
      go_upto_if 28 with (fail)
      generalize hw : World.drewN _ _ = w9
      have HR : Hid (w9.heap[w.heap.size + 1 + 1]? = some (.cells #[.int .u64 0, .int .u64 0, .int .u64 0, .int .u64 0, .int .i64 0, .int .i64 0] 28)) := Lib.hid (by rw [← hw]; exact (by repeat (first | (with_reducible refine al_eq _ _ _ ?_; (simp only [size_alloc]; done)) | with_reducible refine al_keep ?_ _ | with_reducible refine dr_keep ?_ | with_reducible refine drN_keep ?_)))
      have HQ : Hid (w9.heap[w.heap.size + 1 + 1 + 1]? = some (.cells #[.int .u64 0, .int .u64 0, .int .u64 0, .int .u64 0, .int .i64 0, .int .i64 0] 28)) := Lib.hid (by rw [← hw]; exact (by repeat (first | (with_reducible refine al_eq _ _ _ ?_; (simp only [size_alloc]; done)) | with_reducible refine al_keep ?_ _ | with_reducible refine dr_keep ?_ | with_reducible refine drN_keep ?_)))
      have HB : Hid (But [] w w9) := Lib.hid (by rw [← hw]; exact (by repeat (first | with_reducible exact But.refl _ _ | with_reducible refine But.drew ?_ | with_reducible refine drN_but ?_ | with_reducible refine But.alloc ?_ _)))
      clear hw
      have hx := HR.out
      obtain ⟨cR0, cR1, cR2, cR3, cR4, cR5⟩ := c6_of hx
      obtain ⟨fR0, fR1, fR2, fR3, fR4, fR5⟩ := f6_of hx
      have zR := lt_of hx
      clear hx
      have hx := HQ.out
      obtain ⟨cQ0, cQ1, cQ2, cQ3, cQ4, cQ5⟩ := c6_of hx
      obtain ⟨fQ0, fQ1, fQ2, fQ3, fQ4, fQ5⟩ := f6_of hx
      have zQ := lt_of hx
      clear hx
      all_goals (repeat (first | go_values | go_skip | go_guarded | go_step | go_upon))
      all_goals exact bodyPost_ret (v := .tuple #[.agg #[.int .u64 0, .int .u64 0, .int .u64 0, .int .u64 0, .int .i64 0, .int .i64 0], .agg #[.int .u64 0, .int .u64 0, .int .u64 0, .int .u64 0, .int .i64 0, .int .i64 0], .bool false]) (by simp [results, Try.results72, go_sem, cR0, cR1, cR2, cR3, cR4, cR5, cQ0, cQ1, cQ2, cQ3, cQ4, cQ5]) rfl (PairPost.mk zeroSc zeroSc (by rw [HE.out]; rfl) (fun x hx => by rw [HE.out] at hx; cases hx) (by
    repeat (first | with_reducible exact HB.out | with_reducible refine But.alloc ?_ _ | with_reducible refine But.drew ?_ | (with_reducible refine But.setCell ?_ (.inr ?_) _; rotate_left; (simp only []; omega)))))
    · obtain ⟨n, k, p, r, w1, w2, m1, m2, rA, rX, E1, E2⟩ := under_false hr hx h1 h2 b1 b2
      simp only at w1 w2 m1 m2 rA rX E1 E2
      obtain ⟨⟨⟨gv, gm⟩, ⟨gl, gh, gi, gj⟩⟩, hg⟩ : ∃ g : Sc, (ofT ⟨⟨v, m⟩, ⟨lo, hi, sl, p⟩⟩).getD zeroSc = g := ⟨_, rfl⟩
      obtain ⟨gb, hgb⟩ : ∃ b, (ofT ⟨⟨v, m⟩, ⟨lo, hi, sl, p⟩⟩).isSome = b := ⟨_, rfl⟩
      obtain ⟨⟨⟨dv, dm⟩, ⟨dl, dh, di, dj⟩⟩, hd⟩ : ∃ g : Sc, (ofT ⟨⟨xv, xm⟩, ⟨xlo, xhi, r, xsh⟩⟩).getD zeroSc = g := ⟨_, rfl⟩
      obtain ⟨db, hdb⟩ : ∃ b, (ofT ⟨⟨xv, xm⟩, ⟨xlo, xhi, r, xsh⟩⟩).isSome = b := ⟨_, rfl⟩
      have G1 := Lib.hid (fun w => r21of_v v m lo hi gv gm gl gh sl p gi gj gb rA hg hgb w)
      have G2 := Lib.hid (fun w => r21of_v xv xm xlo xhi dv dm dl dh r xsh di dj db rX hd hdb w)
      have HE : Hid ((pairO (lesT false ⟨⟨v, m⟩, ⟨lo, hi, sl, sh⟩⟩ ⟨⟨xv, xm⟩, ⟨xlo, xhi, xsl, xsh⟩⟩) (morT false ⟨⟨xv, xm⟩, ⟨xlo, xhi, xsl, xsh⟩⟩ ⟨⟨v, m⟩, ⟨lo, hi, sl, sh⟩⟩)).isSome = (gb && db)) := Lib.hid (by rw [pairO_is, E1, E2, hgb, hdb])
      have HG : Hid (∀ x, pairO (lesT false ⟨⟨v, m⟩, ⟨lo, hi, sl, sh⟩⟩ ⟨⟨xv, xm⟩, ⟨xlo, xhi, xsl, xsh⟩⟩) (morT false ⟨⟨xv, xm⟩, ⟨xlo, xhi, xsl, xsh⟩⟩ ⟨⟨v, m⟩, ⟨lo, hi, sl, sh⟩⟩) = some x → x = (⟨⟨gv, gm⟩, ⟨gl, gh, gi, gj⟩⟩, ⟨⟨dv, dm⟩, ⟨dl, dh, di, dj⟩⟩)) := Lib.hid (pairO_get (by rw [E1]; exact getD_is hg) (by rw [E2]; exact getD_is hd))
      clear hg hgb hd hdb E1 E2 rA rX hr hx
      have t1 : ((xsh : Int) == (-9223372036854775808)) = false := by rw [beq_eq_false_iff_ne]; exact h1
      have t2 : ((sl : Int) == 9223372036854775807) = false := by rw [beq_eq_false_iff_ne]; exact h2
      clear h1 h2 b1 b2
      have w3 : wrap64 (xsh - 1) = n := by rw [← w1, IntKind.wrap_i64, wrap64]
      have w4 : wrap64 (sl + 1) = k := by rw [← w2, IntKind.wrap_i64, wrap64]
      go_enter Try.func72, Try.ntmps72
      go_upto_region 1 with (fail)
      go_quiet (fail)
      go_upto_region 7 with (fail)
      go_upto_region 9 with (fail)
      generalize hw : World.setCell (World.setCell _ _ _) _ _ = w9
      have HA : Hid (w9.heap[w.heap.size]? = some (.cells #[.int .u64 v, .int .u64 m, .int .u64 lo, .int .u64 hi, .int .i64 sl, .int .i64 p] 28)) := Lib.hid (by rw [← hw]; exact sc_keep (set5of6 (by repeat (first | (with_reducible refine al_eq _ _ _ ?_; (simp only [size_alloc]; done)) | with_reducible refine al_keep ?_ _ | with_reducible refine dr_keep ?_ | with_reducible refine drN_keep ?_))) (by simp only [ne_eq]; omega))
      have HX : Hid (w9.heap[w.heap.size + 1]? = some (.cells #[.int .u64 xv, .int .u64 xm, .int .u64 xlo, .int .u64 xhi, .int .i64 r, .int .i64 xsh] 28)) := Lib.hid (by rw [← hw]; exact set4of6 (sc_keep (by repeat (first | (with_reducible refine al_eq _ _ _ ?_; (simp only [size_alloc]; done)) | with_reducible refine al_keep ?_ _ | with_reducible refine dr_keep ?_ | with_reducible refine drN_keep ?_)) (by simp only [ne_eq]; omega)))
      have HR : Hid (w9.heap[w.heap.size + 1 + 1]? = some (.cells #[.int .u64 0, .int .u64 0, .int .u64 0, .int .u64 0, .int .i64 0, .int .i64 0] 28)) := Lib.hid (by rw [← hw]; exact sc_keep (sc_keep (by repeat (first | (with_reducible refine al_eq _ _ _ ?_; (simp only [size_alloc]; done)) | with_reducible refine al_keep ?_ _ | with_reducible refine dr_keep ?_ | with_reducible refine drN_keep ?_)) (by simp only [ne_eq]; omega)) (by simp only [ne_eq]; omega))
      have HQ : Hid (w9.heap[w.heap.size + 1 + 1 + 1]? = some (.cells #[.int .u64 0, .int .u64 0, .int .u64 0, .int .u64 0, .int .i64 0, .int .i64 0] 28)) := Lib.hid (by rw [← hw]; exact sc_keep (sc_keep (by repeat (first | (with_reducible refine al_eq _ _ _ ?_; (simp only [size_alloc]; done)) | with_reducible refine al_keep ?_ _ | with_reducible refine dr_keep ?_ | with_reducible refine drN_keep ?_)) (by simp only [ne_eq]; omega)) (by simp only [ne_eq]; omega))
      have HB : Hid (But [] w w9) := Lib.hid (by rw [← hw]; refine But.setCell (But.setCell ?_ (.inr (by simp only []; omega)) _) (.inr (by simp only []; omega)) _; exact (by repeat (first | with_reducible exact But.refl _ _ | with_reducible refine But.drew ?_ | with_reducible refine drN_but ?_ | with_reducible refine But.alloc ?_ _)))
      clear hw m1 m2 t1 t2 w1 w2 w3 w4
      have hx := HA.out
      obtain ⟨cA0, cA1, cA2, cA3, cA4, cA5⟩ := c6_of hx
      have zA := lt_of hx
      clear hx
      go_wp2_with fail
      refine (G1.out _).mono ?_
      rintro e w10 ⟨rfl, hb⟩
      have HX := Lib.hid (hb.heap HX.out (by simp))
      have HR := Lib.hid (hb.heap HR.out (by simp))
      have HQ := Lib.hid (hb.heap HQ.out (by simp))
      have HB := Lib.hid (HB.out.trans hb (by simp))
      clear hb HA zA cA0 cA1 cA2 cA3 cA4 cA5
      have hz10 := lt_of HQ.out
      go_upto_region 10 with (fail)
      generalize hw : World.alloc w10 _ = w11
      have HM : Hid (w11.heap[w10.heap.size]? = some (.cells #[.int .u64 gv, .int .u64 gm, .int .u64 gl, .int .u64 gh, .int .i64 gi, .int .i64 gj] 28)) := Lib.hid (by rw [← hw]; exact al_at _ _)
      have HX := Lib.hid (show w11.heap[w.heap.size + 1]? = some (.cells #[.int .u64 xv, .int .u64 xm, .int .u64 xlo, .int .u64 xhi, .int .i64 r, .int .i64 xsh] 28) from by rw [← hw]; exact al_keep HX.out _)
      have HR := Lib.hid (show w11.heap[w.heap.size + 1 + 1]? = some (.cells #[.int .u64 0, .int .u64 0, .int .u64 0, .int .u64 0, .int .i64 0, .int .i64 0] 28) from by rw [← hw]; exact al_keep HR.out _)
      have HQ := Lib.hid (show w11.heap[w.heap.size + 1 + 1 + 1]? = some (.cells #[.int .u64 0, .int .u64 0, .int .u64 0, .int .u64 0, .int .i64 0, .int .i64 0] 28) from by rw [← hw]; exact al_keep HQ.out _)
      have HB := Lib.hid (show But [] w w11 from by rw [← hw]; exact HB.out.alloc _)
      clear hw
      have hx := HX.out
      obtain ⟨cX0, cX1, cX2, cX3, cX4, cX5⟩ := c6_of hx
      have zX := lt_of hx
      clear hx
      go_wp2_with fail
      refine (G2.out _).mono ?_
      rintro e w12 ⟨rfl, hb⟩
      have HM := Lib.hid (hb.heap HM.out (by simp))
      have HR := Lib.hid (hb.heap HR.out (by simp))
      have HQ := Lib.hid (hb.heap HQ.out (by simp))
      have HB := Lib.hid (HB.out.trans hb (by simp))
      clear hb HX zX cX0 cX1 cX2 cX3 cX4 cX5
      have hz12 := lt_of HQ.out
      go_upto_region 11 with (fail)
      generalize hw : World.alloc w12 _ = w13
      have HN : Hid (w13.heap[w12.heap.size]? = some (.cells #[.int .u64 dv, .int .u64 dm, .int .u64 dl, .int .u64 dh, .int .i64 di, .int .i64 dj] 28)) := Lib.hid (by rw [← hw]; exact al_at _ _)
      have HM := Lib.hid (show w13.heap[w10.heap.size]? = some (.cells #[.int .u64 gv, .int .u64 gm, .int .u64 gl, .int .u64 gh, .int .i64 gi, .int .i64 gj] 28) from by rw [← hw]; exact al_keep HM.out _)
      have HR := Lib.hid (show w13.heap[w.heap.size + 1 + 1]? = some (.cells #[.int .u64 0, .int .u64 0, .int .u64 0, .int .u64 0, .int .i64 0, .int .i64 0] 28) from by rw [← hw]; exact al_keep HR.out _)
      have HQ := Lib.hid (show w13.heap[w.heap.size + 1 + 1 + 1]? = some (.cells #[.int .u64 0, .int .u64 0, .int .u64 0, .int .u64 0, .int .i64 0, .int .i64 0] 28) from by rw [← hw]; exact al_keep HQ.out _)
      have HB := Lib.hid (show But [] w w13 from by rw [← hw]; exact HB.out.alloc _)
      clear hw
      have hx := HM.out
      obtain ⟨cM0, cM1, cM2, cM3, cM4, cM5⟩ := c6_of hx
      have zM := lt_of hx
      clear hx
      have hx := HN.out
      obtain ⟨cN0, cN1, cN2, cN3, cN4, cN5⟩ := c6_of hx
      have zN := lt_of hx
      clear hx
      have hx := HR.out
      obtain ⟨cR0, cR1, cR2, cR3, cR4, cR5⟩ := c6_of hx
      obtain ⟨fR0, fR1, fR2, fR3, fR4, fR5⟩ := f6_of hx
      have zR := lt_of hx
      clear hx
      have hx := HQ.out
      obtain ⟨cQ0, cQ1, cQ2, cQ3, cQ4, cQ5⟩ := c6_of hx
      obtain ⟨fQ0, fQ1, fQ2, fQ3, fQ4, fQ5⟩ := f6_of hx
      have zQ := lt_of hx
      clear hx
      skip
      cases gb with
      | false =>
        go_region
        all_goals (repeat (first | go_values | go_skip | go_guarded | go_step | go_upon))
        all_goals exact bodyPost_ret (v := .tuple #[.agg #[.int .u64 gv, .int .u64 gm, .int .u64 gl, .int .u64 gh, .int .i64 gi, .int .i64 gj], .agg #[.int .u64 dv, .int .u64 dm, .int .u64 dl, .int .u64 dh, .int .i64 di, .int .i64 dj], .bool false]) (by simp [results, Try.results72, go_sem, cR0, cR1, cR2, cR3, cR4, cR5, cQ0, cQ1, cQ2, cQ3, cQ4, cQ5]) rfl (PairPost.mk ⟨⟨gv, gm⟩, ⟨gl, gh, gi, gj⟩⟩ ⟨⟨dv, dm⟩, ⟨dl, dh, di, dj⟩⟩ (by rw [HE.out]; rfl) (HG.out) (by
    repeat (first | with_reducible exact HB.out | with_reducible refine But.alloc ?_ _ | with_reducible refine But.drew ?_ | (with_reducible refine But.setCell ?_ (.inr ?_) _; rotate_left; (simp only []; omega)))))
      | true =>
        cases db with
        | false =>
          go_region
          all_goals (repeat (first | go_values | go_skip | go_guarded | go_step | go_upon))
          all_goals exact bodyPost_ret (v := .tuple #[.agg #[.int .u64 gv, .int .u64 gm, .int .u64 gl, .int .u64 gh, .int .i64 gi, .int .i64 gj], .agg #[.int .u64 dv, .int .u64 dm, .int .u64 dl, .int .u64 dh, .int .i64 di, .int .i64 dj], .bool false]) (by simp [results, Try.results72, go_sem, cR0, cR1, cR2, cR3, cR4, cR5, cQ0, cQ1, cQ2, cQ3, cQ4, cQ5]) rfl (PairPost.mk ⟨⟨gv, gm⟩, ⟨gl, gh, gi, gj⟩⟩ ⟨⟨dv, dm⟩, ⟨dl, dh, di, dj⟩⟩ (by rw [HE.out]; rfl) (HG.out) (by
    repeat (first | with_reducible exact HB.out | with_reducible refine But.alloc ?_ _ | with_reducible refine But.drew ?_ | (with_reducible refine But.setCell ?_ (.inr ?_) _; rotate_left; (simp only []; omega)))))
        | true =>
          go_region
          all_goals (repeat (first | go_values | go_skip | go_guarded | go_step | go_upon))
          all_goals exact bodyPost_ret (v := .tuple #[.agg #[.int .u64 gv, .int .u64 gm, .int .u64 gl, .int .u64 gh, .int .i64 gi, .int .i64 gj], .agg #[.int .u64 dv, .int .u64 dm, .int .u64 dl, .int .u64 dh, .int .i64 di, .int .i64 dj], .bool true]) (by simp [results, Try.results72, go_sem, cR0, cR1, cR2, cR3, cR4, cR5, cQ0, cQ1, cQ2, cQ3, cQ4, cQ5]) rfl (PairPost.mk ⟨⟨gv, gm⟩, ⟨gl, gh, gi, gj⟩⟩ ⟨⟨dv, dm⟩, ⟨dl, dh, di, dj⟩⟩ (by rw [HE.out]; rfl) (HG.out) (by
    repeat (first | with_reducible exact HB.out | with_reducible refine But.alloc ?_ _ | with_reducible refine But.drew ?_ | (with_reducible refine But.setCell ?_ (.inr ?_) _; rotate_left; (simp only []; omega)))))
set_option maxRecDepth 100000 in
set_option maxHeartbeats 4000000 in
theorem r21set (v m lo hi xv xm xlo xhi : Nat) (sl sh xsl xsh : Int) (w : World) (hr : Rg ⟨⟨v, m⟩, ⟨lo, hi, sl, sh⟩⟩) (hx : Rg ⟨⟨xv, xm⟩, ⟨xlo, xhi, xsl, xsh⟩⟩) : Calls Try.prog 73 #[.agg #[.int .u64 v, .int .u64 m, .int .u64 lo, .int .u64 hi, .int .i64 sl, .int .i64 sh], .agg #[.int .u64 xv, .int .u64 xm, .int .u64 xlo, .int .u64 xhi, .int .i64 xsl, .int .i64 xsh]] w (PairPost (pairO (someT ⟨⟨v, m⟩, ⟨lo, hi, sl, sh⟩⟩ ⟨⟨xv, xm⟩, ⟨xlo, xhi, xsl, xsh⟩⟩) (someT ⟨⟨xv, xm⟩, ⟨xlo, xhi, xsl, xsh⟩⟩ ⟨⟨v, m⟩, ⟨lo, hi, sl, sh⟩⟩)) w) := by
  obtain ⟨q1, hq1⟩ : ∃ q, q = uor v m := ⟨_, rfl⟩
  obtain ⟨q2, hq2⟩ : ∃ q, q = uor xv xm := ⟨_, rfl⟩
  obtain ⟨n, hn⟩ : ∃ n, n = uand q1 q2 := ⟨_, rfl⟩
  have n64 : n < 18446744073709551616 := by rw [hn]; exact uand_lt _ _
  have E1 : someT ⟨⟨v, m⟩, ⟨lo, hi, sl, sh⟩⟩ ⟨⟨xv, xm⟩, ⟨xlo, xhi, xsl, xsh⟩⟩ = if n = 0 then none else if single n then knownT ⟨⟨v, m⟩, ⟨lo, hi, sl, sh⟩⟩ n n else some ⟨⟨v, m⟩, ⟨lo, hi, sl, sh⟩⟩ := by unfold someT maybeN; rw [← hq1, ← hq2, ← hn]
  have E2 : someT ⟨⟨xv, xm⟩, ⟨xlo, xhi, xsl, xsh⟩⟩ ⟨⟨v, m⟩, ⟨lo, hi, sl, sh⟩⟩ = if n = 0 then none else if single n then knownT ⟨⟨xv, xm⟩, ⟨xlo, xhi, xsl, xsh⟩⟩ n n else some ⟨⟨xv, xm⟩, ⟨xlo, xhi, xsl, xsh⟩⟩ := by unfold someT maybeN; rw [← hq1, ← hq2, uand_comm, ← hn]
  have ab1 : bits .or .u64 (v : Int) (m : Int) = (q1 : Int) := by rw [hq1]; exact bits_or v m
  have ab2 : bits .or .u64 (xv : Int) (xm : Int) = (q2 : Int) := by rw [hq2]; exact bits_or xv xm
  have ab3 : bits .and .u64 (q1 : Int) (q2 : Int) = (n : Int) := by rw [hn]; exact bits_and q1 q2
  have cd1 : uor v m = q1 := hq1.symm
  have cd2 : uor xv xm = q2 := hq2.symm
  have cd3 : uand q1 q2 = n := hn.symm
  clear hq1 hq2 hn
  by_cases h0 : n = 0
  · subst h0
    rw [if_pos rfl] at E1
    have HE := Lib.hid (pairO_none1 (q := someT ⟨⟨xv, xm⟩, ⟨xlo, xhi, xsl, xsh⟩⟩ ⟨⟨v, m⟩, ⟨lo, hi, sl, sh⟩⟩) E1)
    clear E1 E2 n64 hr hx
    go_enter Try.func73, Try.ntmps73
    go_upto_if 28 with (fail)
    generalize hw : World.alloc _ _ = w9
    have HR : Hid (w9.heap[w.heap.size + 1 + 1]? = some (.cells #[.int .u64 0, .int .u64 0, .int .u64 0, .int .u64 0, .int .i64 0, .int .i64 0] 28)) := Lib.hid (by rw [← hw]; exact (by repeat (first | (with_reducible refine al_eq _ _ _ ?_; (simp only [size_alloc]; done)) | with_reducible refine al_keep ?_ _ | with_reducible refine dr_keep ?_ | with_reducible refine drN_keep ?_)))
    have HQ : Hid (w9.heap[w.heap.size + 1 + 1 + 1]? = some (.cells #[.int .u64 0, .int .u64 0, .int .u64 0, .int .u64 0, .int .i64 0, .int .i64 0] 28)) := Lib.hid (by rw [← hw]; exact (by repeat (first | (with_reducible refine al_eq _ _ _ ?_; (simp only [size_alloc]; done)) | with_reducible refine al_keep ?_ _ | with_reducible refine dr_keep ?_ | with_reducible refine drN_keep ?_)))
    have HB : Hid (But [] w w9) := Lib.hid (by rw [← hw]; exact (by repeat (first | with_reducible exact But.refl _ _ | with_reducible refine But.drew ?_ | with_reducible refine drN_but ?_ | with_reducible refine But.alloc ?_ _)))
    clear hw
    have hx := HR.out
    obtain ⟨cR0, cR1, cR2, cR3, cR4, cR5⟩ := c6_of hx
    obtain ⟨fR0, fR1, fR2, fR3, fR4, fR5⟩ := f6_of hx
    have zR := lt_of hx
    clear hx
    have hx := HQ.out
    obtain ⟨cQ0, cQ1, cQ2, cQ3, cQ4, cQ5⟩ := c6_of hx
    obtain ⟨fQ0, fQ1, fQ2, fQ3, fQ4, fQ5⟩ := f6_of hx
    have zQ := lt_of hx
    clear hx
    all_goals (repeat (first | go_values | go_skip | go_guarded | go_step | go_upon))
    all_goals exact bodyPost_ret (v := .tuple #[.agg #[.int .u64 0, .int .u64 0, .int .u64 0, .int .u64 0, .int .i64 0, .int .i64 0], .agg #[.int .u64 0, .int .u64 0, .int .u64 0, .int .u64 0, .int .i64 0, .int .i64 0], .bool false]) (by simp [results, Try.results73, go_sem, cR0, cR1, cR2, cR3, cR4, cR5, cQ0, cQ1, cQ2, cQ3, cQ4, cQ5]) rfl (PairPost.mk zeroSc zeroSc (by rw [HE.out]; rfl) (fun x hx => by rw [HE.out] at hx; cases hx) (by
    repeat (first | with_reducible exact HB.out | with_reducible refine But.alloc ?_ _ | with_reducible refine But.drew ?_ | (with_reducible refine But.setCell ?_ (.inr ?_) _; rotate_left; (simp only []; omega)))))
  rw [if_neg h0] at E1 E2
  have t1 : ((n : Int) == 0) = false := by rw [beq_eq_false_iff_ne]; omega
  obtain ⟨k, hk⟩ : ∃ k, k = n - 1 := ⟨_, rfl⟩
  have w1 : IntKind.u64.wrap ((n : Int) - 1) = (k : Int) := by rw [IntKind.wrap_u64, hk]; omega
  obtain ⟨u, hu⟩ : ∃ u, u = uand n k := ⟨_, rfl⟩
  have ab4 : bits .and .u64 (n : Int) (k : Int) = (u : Int) := by rw [hu]; exact bits_and n k
  have cd4 : uand n k = u := hu.symm
  have hnz : (n != 0) = true := by simpa using h0
  have hs : single n = (u == 0) := by unfold single; rw [← hk, ← hu, hnz, Bool.true_and]
  clear hnz
  rw [hs] at E1 E2
  clear hs hk hu h0
  by_cases hu0 : u ≠ 0
  · have t2 : ((u : Int) != 0) = true := by simp; omega
    have hub : (u == 0) = false := by simpa using hu0
    rw [hub, if_neg (by decide)] at E1 E2
    have HE : Hid (pairO (someT ⟨⟨v, m⟩, ⟨lo, hi, sl, sh⟩⟩ ⟨⟨xv, xm⟩, ⟨xlo, xhi, xsl, xsh⟩⟩) (someT ⟨⟨xv, xm⟩, ⟨xlo, xhi, xsl, xsh⟩⟩ ⟨⟨v, m⟩, ⟨lo, hi, sl, sh⟩⟩) = some (⟨⟨v, m⟩, ⟨lo, hi, sl, sh⟩⟩, ⟨⟨xv, xm⟩, ⟨xlo, xhi, xsl, xsh⟩⟩)) := Lib.hid (by rw [E1, E2]; rfl)
    clear E1 E2 n64 hub hu0 hr hx
    go_enter Try.func73, Try.ntmps73
    go_upto_region 5 with (fail)
    generalize hw : World.alloc _ _ = w9
    have HA : Hid (w9.heap[w.heap.size]? = some (.cells #[.int .u64 v, .int .u64 m, .int .u64 lo, .int .u64 hi, .int .i64 sl, .int .i64 sh] 28)) := Lib.hid (by rw [← hw]; exact (by repeat (first | (with_reducible refine al_eq _ _ _ ?_; (simp only [size_alloc]; done)) | with_reducible refine al_keep ?_ _ | with_reducible refine dr_keep ?_ | with_reducible refine drN_keep ?_)))
    have HX : Hid (w9.heap[w.heap.size + 1]? = some (.cells #[.int .u64 xv, .int .u64 xm, .int .u64 xlo, .int .u64 xhi, .int .i64 xsl, .int .i64 xsh] 28)) := Lib.hid (by rw [← hw]; exact (by repeat (first | (with_reducible refine al_eq _ _ _ ?_; (simp only [size_alloc]; done)) | with_reducible refine al_keep ?_ _ | with_reducible refine dr_keep ?_ | with_reducible refine drN_keep ?_)))
    have HR : Hid (w9.heap[w.heap.size + 1 + 1]? = some (.cells #[.int .u64 0, .int .u64 0, .int .u64 0, .int .u64 0, .int .i64 0, .int .i64 0] 28)) := Lib.hid (by rw [← hw]; exact (by repeat (first | (with_reducible refine al_eq _ _ _ ?_; (simp only [size_alloc]; done)) | with_reducible refine al_keep ?_ _ | with_reducible refine dr_keep ?_ | with_reducible refine drN_keep ?_)))
    have HQ : Hid (w9.heap[w.heap.size + 1 + 1 + 1]? = some (.cells #[.int .u64 0, .int .u64 0, .int .u64 0, .int .u64 0, .int .i64 0, .int .i64 0] 28)) := Lib.hid (by rw [← hw]; exact (by repeat (first | (with_reducible refine al_eq _ _ _ ?_; (simp only [size_alloc]; done)) | with_reducible refine al_keep ?_ _ | with_reducible refine dr_keep ?_ | with_reducible refine drN_keep ?_)))
    have HB : Hid (But [] w w9) := Lib.hid (by rw [← hw]; exact (by repeat (first | with_reducible exact But.refl _ _ | with_reducible refine But.drew ?_ | with_reducible refine drN_but ?_ | with_reducible refine But.alloc ?_ _)))
    clear hw
    have hx := HA.out
    obtain ⟨cA0, cA1, cA2, cA3, cA4, cA5⟩ := c6_of hx
    have zA := lt_of hx
    clear hx
    have hx := HX.out
    obtain ⟨cX0, cX1, cX2, cX3, cX4, cX5⟩ := c6_of hx
    have zX := lt_of hx
    clear hx
    have hx := HR.out
    obtain ⟨cR0, cR1, cR2, cR3, cR4, cR5⟩ := c6_of hx
    obtain ⟨fR0, fR1, fR2, fR3, fR4, fR5⟩ := f6_of hx
    have zR := lt_of hx
    clear hx
    have hx := HQ.out
    obtain ⟨cQ0, cQ1, cQ2, cQ3, cQ4, cQ5⟩ := c6_of hx
    obtain ⟨fQ0, fQ1, fQ2, fQ3, fQ4, fQ5⟩ := f6_of hx
    have zQ := lt_of hx
    clear hx
    go_region
    all_goals (repeat (first | go_values | go_skip | go_guarded | go_step | go_upon))
    all_goals exact bodyPost_ret (v := .tuple #[.agg #[.int .u64 v, .int .u64 m, .int .u64 lo, .int .u64 hi, .int .i64 sl, .int .i64 sh], .agg #[.int .u64 xv, .int .u64 xm, .int .u64 xlo, .int .u64 xhi, .int .i64 xsl, .int .i64 xsh], .bool true]) (by simp [results, Try.results73, go_sem, cR0, cR1, cR2, cR3, cR4, cR5, cQ0, cQ1, cQ2, cQ3, cQ4, cQ5]) rfl (PairPost.mk ⟨⟨v, m⟩, ⟨lo, hi, sl, sh⟩⟩ ⟨⟨xv, xm⟩, ⟨xlo, xhi, xsl, xsh⟩⟩ (by rw [HE.out]; rfl) (fun x hx => by rw [HE.out] at hx; cases hx; rfl) (by
    repeat (first | with_reducible exact HB.out | with_reducible refine But.alloc ?_ _ | with_reducible refine But.drew ?_ | (with_reducible refine But.setCell ?_ (.inr ?_) _; rotate_left; (simp only []; omega)))))
  have hu0 : u = 0 := by omega
  subst hu0
  rw [show ((0 : Nat) == 0) = true from rfl, if_pos rfl] at E1 E2
  have K1 : Hid (∀ w, Calls Try.prog 74 #[.agg #[.int .u64 v, .int .u64 m, .int .u64 lo, .int .u64 hi, .int .i64 sl, .int .i64 sh], .int .u64 n, .int .u64 n] w (RulePost (someT ⟨⟨v, m⟩, ⟨lo, hi, sl, sh⟩⟩ ⟨⟨xv, xm⟩, ⟨xlo, xhi, xsl, xsh⟩⟩) w)) := Lib.hid (fun w => by rw [E1]; exact r21known v m lo hi sl sh n n w n64 n64 hr)
  have K2 : Hid (∀ w, Calls Try.prog 74 #[.agg #[.int .u64 xv, .int .u64 xm, .int .u64 xlo, .int .u64 xhi, .int .i64 xsl, .int .i64 xsh], .int .u64 n, .int .u64 n] w (RulePost (someT ⟨⟨xv, xm⟩, ⟨xlo, xhi, xsl, xsh⟩⟩ ⟨⟨v, m⟩, ⟨lo, hi, sl, sh⟩⟩) w)) := Lib.hid (fun w => by rw [E2]; exact r21known xv xm xlo xhi xsl xsh n n w n64 n64 hx)
  obtain ⟨o1, ho1⟩ : ∃ o, o = someT ⟨⟨v, m⟩, ⟨lo, hi, sl, sh⟩⟩ ⟨⟨xv, xm⟩, ⟨xlo, xhi, xsl, xsh⟩⟩ := ⟨_, rfl⟩
  obtain ⟨o2, ho2⟩ : ∃ o, o = someT ⟨⟨xv, xm⟩, ⟨xlo, xhi, xsl, xsh⟩⟩ ⟨⟨v, m⟩, ⟨lo, hi, sl, sh⟩⟩ := ⟨_, rfl⟩
  rw [← ho1] at K1 ⊢
  rw [← ho2] at K2 ⊢
  clear E1 E2 n64 ho1 ho2 hr hx
  go_enter Try.func73, Try.ntmps73
  go_upto_region 6 with (fail)
  generalize hw : World.alloc _ _ = w9
  have HA : Hid (w9.heap[w.heap.size]? = some (.cells #[.int .u64 v, .int .u64 m, .int .u64 lo, .int .u64 hi, .int .i64 sl, .int .i64 sh] 28)) := Lib.hid (by rw [← hw]; exact (by repeat (first | (with_reducible refine al_eq _ _ _ ?_; (simp only [size_alloc]; done)) | with_reducible refine al_keep ?_ _ | with_reducible refine dr_keep ?_ | with_reducible refine drN_keep ?_)))
  have HX : Hid (w9.heap[w.heap.size + 1]? = some (.cells #[.int .u64 xv, .int .u64 xm, .int .u64 xlo, .int .u64 xhi, .int .i64 xsl, .int .i64 xsh] 28)) := Lib.hid (by rw [← hw]; exact (by repeat (first | (with_reducible refine al_eq _ _ _ ?_; (simp only [size_alloc]; done)) | with_reducible refine al_keep ?_ _ | with_reducible refine dr_keep ?_ | with_reducible refine drN_keep ?_)))
  have HR : Hid (w9.heap[w.heap.size + 1 + 1]? = some (.cells #[.int .u64 0, .int .u64 0, .int .u64 0, .int .u64 0, .int .i64 0, .int .i64 0] 28)) := Lib.hid (by rw [← hw]; exact (by repeat (first | (with_reducible refine al_eq _ _ _ ?_; (simp only [size_alloc]; done)) | with_reducible refine al_keep ?_ _ | with_reducible refine dr_keep ?_ | with_reducible refine drN_keep ?_)))
  have HQ : Hid (w9.heap[w.heap.size + 1 + 1 + 1]? = some (.cells #[.int .u64 0, .int .u64 0, .int .u64 0, .int .u64 0, .int .i64 0, .int .i64 0] 28)) := Lib.hid (by rw [← hw]; exact (by repeat (first | (with_reducible refine al_eq _ _ _ ?_; (simp only [size_alloc]; done)) | with_reducible refine al_keep ?_ _ | with_reducible refine dr_keep ?_ | with_reducible refine drN_keep ?_)))
  have HB : Hid (But [] w w9) := Lib.hid (by rw [← hw]; exact (by repeat (first | with_reducible exact But.refl _ _ | with_reducible refine But.drew ?_ | with_reducible refine drN_but ?_ | with_reducible refine But.alloc ?_ _)))
  clear hw
  have HZ : Hid (w.heap.size + 1 + 1 + 1 < w9.heap.size) := Lib.hid (lt_of HQ.out)
  have hx := HA.out
  obtain ⟨cA0, cA1, cA2, cA3, cA4, cA5⟩ := c6_of hx
  have zA := lt_of hx
  clear hx
  go_wp2_with fail
  refine (K1.out _).mono ?_
  rintro e w10 ⟨⟨⟨gv, gm⟩, ⟨gl, gh, gi, gj⟩⟩, rfl, hc1, hb⟩
  have HC1 := Lib.hid hc1
  obtain ⟨gb, hgb⟩ : ∃ b, o1.isSome = b := ⟨_, rfl⟩
  have HGB := Lib.hid hgb
  simp only [Sc.val]
  rw [hgb]
  have HA := Lib.hid (hb.heap HA.out (by simp))
  have HX := Lib.hid (hb.heap HX.out (by simp))
  have HR := Lib.hid (hb.heap HR.out (by simp))
  have HQ := Lib.hid (hb.heap HQ.out (by simp))
  have HB := Lib.hid (HB.out.trans hb (by simp))
  clear hb hc1 hgb zA cA0 cA1 cA2 cA3 cA4 cA5
  have hz10 := lt_of HQ.out
  go_upto_region 7 with (fail)
  generalize hw : World.alloc w10 _ = w11
  have HM : Hid (w11.heap[w10.heap.size]? = some (.cells #[.int .u64 gv, .int .u64 gm, .int .u64 gl, .int .u64 gh, .int .i64 gi, .int .i64 gj] 28)) := Lib.hid (by rw [← hw]; exact al_at _ _)
  have HA := Lib.hid (show w11.heap[w.heap.size]? = some (.cells #[.int .u64 v, .int .u64 m, .int .u64 lo, .int .u64 hi, .int .i64 sl, .int .i64 sh] 28) from by rw [← hw]; exact al_keep HA.out _)
  have HX := Lib.hid (show w11.heap[w.heap.size + 1]? = some (.cells #[.int .u64 xv, .int .u64 xm, .int .u64 xlo, .int .u64 xhi, .int .i64 xsl, .int .i64 xsh] 28) from by rw [← hw]; exact al_keep HX.out _)
  have HR := Lib.hid (show w11.heap[w.heap.size + 1 + 1]? = some (.cells #[.int .u64 0, .int .u64 0, .int .u64 0, .int .u64 0, .int .i64 0, .int .i64 0] 28) from by rw [← hw]; exact al_keep HR.out _)
  have HQ := Lib.hid (show w11.heap[w.heap.size + 1 + 1 + 1]? = some (.cells #[.int .u64 0, .int .u64 0, .int .u64 0, .int .u64 0, .int .i64 0, .int .i64 0] 28) from by rw [← hw]; exact al_keep HQ.out _)
  have HB := Lib.hid (show But [] w w11 from by rw [← hw]; exact HB.out.alloc _)
  clear hw
  have hx := HX.out
  obtain ⟨cX0, cX1, cX2, cX3, cX4, cX5⟩ := c6_of hx
  have zX := lt_of hx
  clear hx
  go_wp2_with fail
  refine (K2.out _).mono ?_
  rintro e w12 ⟨⟨⟨dv, dm⟩, ⟨dl, dh, di, dj⟩⟩, rfl, hc2, hb⟩
  have HC2 := Lib.hid hc2
  obtain ⟨db, hdb⟩ : ∃ b, o2.isSome = b := ⟨_, rfl⟩
  have HDB := Lib.hid hdb
  simp only [Sc.val]
  rw [hdb]
  have HM := Lib.hid (hb.heap HM.out (by simp))
  have HR := Lib.hid (hb.heap HR.out (by simp))
  have HQ := Lib.hid (hb.heap HQ.out (by simp))
  have HB := Lib.hid (HB.out.trans hb (by simp))
  clear hb hc2 hdb HA HX zX cX0 cX1 cX2 cX3 cX4 cX5
  have hz12 := lt_of HQ.out
  go_upto_region 8 with (fail)
  generalize hw : World.alloc w12 _ = w13
  have HN : Hid (w13.heap[w12.heap.size]? = some (.cells #[.int .u64 dv, .int .u64 dm, .int .u64 dl, .int .u64 dh, .int .i64 di, .int .i64 dj] 28)) := Lib.hid (by rw [← hw]; exact al_at _ _)
  have HM := Lib.hid (show w13.heap[w10.heap.size]? = some (.cells #[.int .u64 gv, .int .u64 gm, .int .u64 gl, .int .u64 gh, .int .i64 gi, .int .i64 gj] 28) from by rw [← hw]; exact al_keep HM.out _)
  have HR := Lib.hid (show w13.heap[w.heap.size + 1 + 1]? = some (.cells #[.int .u64 0, .int .u64 0, .int .u64 0, .int .u64 0, .int .i64 0, .int .i64 0] 28) from by rw [← hw]; exact al_keep HR.out _)
  have HQ := Lib.hid (show w13.heap[w.heap.size + 1 + 1 + 1]? = some (.cells #[.int .u64 0, .int .u64 0, .int .u64 0, .int .u64 0, .int .i64 0, .int .i64 0] 28) from by rw [← hw]; exact al_keep HQ.out _)
  have HB := Lib.hid (show But [] w w13 from by rw [← hw]; exact HB.out.alloc _)
  clear hw
  have hx := HM.out
  obtain ⟨cM0, cM1, cM2, cM3, cM4, cM5⟩ := c6_of hx
  have zM := lt_of hx
  clear hx
  have hx := HN.out
  obtain ⟨cN0, cN1, cN2, cN3, cN4, cN5⟩ := c6_of hx
  have zN := lt_of hx
  clear hx
  have hx := HR.out
  obtain ⟨cR0, cR1, cR2, cR3, cR4, cR5⟩ := c6_of hx
  obtain ⟨fR0, fR1, fR2, fR3, fR4, fR5⟩ := f6_of hx
  have zR := lt_of hx
  clear hx
  have hx := HQ.out
  obtain ⟨cQ0, cQ1, cQ2, cQ3, cQ4, cQ5⟩ := c6_of hx
  obtain ⟨fQ0, fQ1, fQ2, fQ3, fQ4, fQ5⟩ := f6_of hx
  have zQ := lt_of hx
  clear hx
  cases gb with
  | false =>
    go_region
    all_goals (repeat (first | go_values | go_skip | go_guarded | go_step | go_upon))
    all_goals exact bodyPost_ret (v := .tuple #[.agg #[.int .u64 gv, .int .u64 gm, .int .u64 gl, .int .u64 gh, .int .i64 gi, .int .i64 gj], .agg #[.int .u64 dv, .int .u64 dm, .int .u64 dl, .int .u64 dh, .int .i64 di, .int .i64 dj], .bool false]) (by simp [results, Try.results73, go_sem, cR0, cR1, cR2, cR3, cR4, cR5, cQ0, cQ1, cQ2, cQ3, cQ4, cQ5]) rfl (PairPost.mk ⟨⟨gv, gm⟩, ⟨gl, gh, gi, gj⟩⟩ ⟨⟨dv, dm⟩, ⟨dl, dh, di, dj⟩⟩ (by rw [pairO_is, HGB.out, HDB.out]; rfl) (pairO_get HC1.out HC2.out) (by
    repeat (first | with_reducible exact HB.out | with_reducible refine But.alloc ?_ _ | with_reducible refine But.drew ?_ | (with_reducible refine But.setCell ?_ (.inr ?_) _; rotate_left; (simp only []; omega)))))
  | true =>
    cases db with
    | false =>
      go_region
      all_goals (repeat (first | go_values | go_skip | go_guarded | go_step | go_upon))
      all_goals exact bodyPost_ret (v := .tuple #[.agg #[.int .u64 gv, .int .u64 gm, .int .u64 gl, .int .u64 gh, .int .i64 gi, .int .i64 gj], .agg #[.int .u64 dv, .int .u64 dm, .int .u64 dl, .int .u64 dh, .int .i64 di, .int .i64 dj], .bool false]) (by simp [results, Try.results73, go_sem, cR0, cR1, cR2, cR3, cR4, cR5, cQ0, cQ1, cQ2, cQ3, cQ4, cQ5]) rfl (PairPost.mk ⟨⟨gv, gm⟩, ⟨gl, gh, gi, gj⟩⟩ ⟨⟨dv, dm⟩, ⟨dl, dh, di, dj⟩⟩ (by rw [pairO_is, HGB.out, HDB.out]; rfl) (pairO_get HC1.out HC2.out) (by
    repeat (first | with_reducible exact HB.out | with_reducible refine But.alloc ?_ _ | with_reducible refine But.drew ?_ | (with_reducible refine But.setCell ?_ (.inr ?_) _; rotate_left; (simp only []; omega)))))
    | true =>
      go_region
      all_goals (repeat (first | go_values | go_skip | go_guarded | go_step | go_upon))
      all_goals exact bodyPost_ret (v := .tuple #[.agg #[.int .u64 gv, .int .u64 gm, .int .u64 gl, .int .u64 gh, .int .i64 gi, .int .i64 gj], .agg #[.int .u64 dv, .int .u64 dm, .int .u64 dl, .int .u64 dh, .int .i64 di, .int .i64 dj], .bool true]) (by simp [results, Try.results73, go_sem, cR0, cR1, cR2, cR3, cR4, cR5, cQ0, cQ1, cQ2, cQ3, cQ4, cQ5]) rfl (PairPost.mk ⟨⟨gv, gm⟩, ⟨gl, gh, gi, gj⟩⟩ ⟨⟨dv, dm⟩, ⟨dl, dh, di, dj⟩⟩ (by rw [pairO_is, HGB.out, HDB.out]; rfl) (pairO_get HC1.out HC2.out) (by
    repeat (first | with_reducible exact HB.out | with_reducible refine But.alloc ?_ _ | with_reducible refine But.drew ?_ | (with_reducible refine But.setCell ?_ (.inr ?_) _; rotate_left; (simp only []; omega)))))
end Go.Proofs.Ytmbmmcippglfoaa.M
