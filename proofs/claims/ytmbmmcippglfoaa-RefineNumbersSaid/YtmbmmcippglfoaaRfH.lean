/-
  The reference: hatchwayref21.holds.
-/
import Derived.Test.YtmbmmcippglfoaaRfF
namespace Go.Proofs.Ytmbmmcippglfoaa.M
open Go.RowKit Go.Shelf
set_option linter.unusedVariables false
set_option linter.unusedSectionVars false
set_option linter.unusedSimpArgs false

set_option maxRecDepth 100000 in
set_option maxHeartbeats 4000000 in
theorem r21holds_16 (v m lo hi xv xm xlo xhi : Nat) (sl sh xsl xsh : Int) (w : World) (hr : Rg ⟨⟨v, m⟩, ⟨lo, hi, sl, sh⟩⟩) (hx : Rg ⟨⟨xv, xm⟩, ⟨xlo, xhi, xsl, xsh⟩⟩) (ia : sl ≤ sh) (ib : xsl ≤ xsh) : Calls Try.prog 37 #[.int .u8 16, .agg #[.int .u64 v, .int .u64 m, .int .u64 lo, .int .u64 hi, .int .i64 sl, .int .i64 sh], .agg #[.int .u64 xv, .int .u64 xm, .int .u64 xlo, .int .u64 xhi, .int .i64 xsl, .int .i64 xsh]] w (PairPost (holdT 16 ⟨⟨v, m⟩, ⟨lo, hi, sl, sh⟩⟩ ⟨⟨xv, xm⟩, ⟨xlo, xhi, xsl, xsh⟩⟩) w) := by
  have K1 := Lib.hid (fun w => r19Meet0 v m lo hi xv xm xlo xhi sl sh xsl xsh w hr hx)
  obtain ⟨o1, ho1⟩ : ∃ o, o = scMeetT ⟨⟨v, m⟩, ⟨lo, hi, sl, sh⟩⟩ ⟨⟨xv, xm⟩, ⟨xlo, xhi, xsl, xsh⟩⟩ := ⟨_, rfl⟩
  have HO : Hid (holdT 16 ⟨⟨v, m⟩, ⟨lo, hi, sl, sh⟩⟩ ⟨⟨xv, xm⟩, ⟨xlo, xhi, xsl, xsh⟩⟩ = pairO o1 o1) := Lib.hid (by rw [hold_both]; show pairO (scMeetT ⟨⟨v, m⟩, ⟨lo, hi, sl, sh⟩⟩ ⟨⟨xv, xm⟩, ⟨xlo, xhi, xsl, xsh⟩⟩) (scMeetT ⟨⟨xv, xm⟩, ⟨xlo, xhi, xsl, xsh⟩⟩ ⟨⟨v, m⟩, ⟨lo, hi, sl, sh⟩⟩) = _; rw [scMeet_comm ⟨⟨xv, xm⟩, ⟨xlo, xhi, xsl, xsh⟩⟩ ⟨⟨v, m⟩, ⟨lo, hi, sl, sh⟩⟩, ho1])
  rw [← ho1] at K1
  clear ho1 hr hx ia ib
  go_enter Try.func37, Try.ntmps37
  go_upto_region 3 with (fail)
  generalize hw : World.alloc _ _ = w9
  have HA : Hid (w9.heap[w.heap.size]? = some (.cells #[.int .u64 v, .int .u64 m, .int .u64 lo, .int .u64 hi, .int .i64 sl, .int .i64 sh] 28)) := Lib.hid (by rw [← hw]; exact (by repeat (first | (with_reducible refine al_eq _ _ _ ?_; (simp only [size_alloc]; done)) | with_reducible refine al_keep ?_ _ | with_reducible refine dr_keep ?_ | with_reducible refine drN_keep ?_)))
  have HX : Hid (w9.heap[w.heap.size + 1]? = some (.cells #[.int .u64 xv, .int .u64 xm, .int .u64 xlo, .int .u64 xhi, .int .i64 xsl, .int .i64 xsh] 28)) := Lib.hid (by rw [← hw]; exact (by repeat (first | (with_reducible refine al_eq _ _ _ ?_; (simp only [size_alloc]; done)) | with_reducible refine al_keep ?_ _ | with_reducible refine dr_keep ?_ | with_reducible refine drN_keep ?_)))
  have HR : Hid (w9.heap[w.heap.size + 1 + 1]? = some (.cells #[.int .u64 0, .int .u64 0, .int .u64 0, .int .u64 0, .int .i64 0, .int .i64 0] 28)) := Lib.hid (by rw [← hw]; exact (by repeat (first | (with_reducible refine al_eq _ _ _ ?_; (simp only [size_alloc]; done)) | with_reducible refine al_keep ?_ _ | with_reducible refine dr_keep ?_ | with_reducible refine drN_keep ?_)))
  have HQ : Hid (w9.heap[w.heap.size + 1 + 1 + 1]? = some (.cells #[.int .u64 0, .int .u64 0, .int .u64 0, .int .u64 0, .int .i64 0, .int .i64 0] 28)) := Lib.hid (by rw [← hw]; exact (by repeat (first | (with_reducible refine al_eq _ _ _ ?_; (simp only [size_alloc]; done)) | with_reducible refine al_keep ?_ _ | with_reducible refine dr_keep ?_ | with_reducible refine drN_keep ?_)))
  have HB : Hid (But [] w w9) := Lib.hid (by rw [← hw]; exact (by repeat (first | with_reducible exact But.refl _ _ | with_reducible refine But.drew ?_ | with_reducible refine drN_but ?_ | with_reducible refine But.alloc ?_ _)))
  clear hw
  have hx := HA.out
  obtain ⟨cA0, cA1, cA2, cA3, cA4, cA5⟩ := c6_of hx
  have zA := lt_of hx
  clear hx
  have hx := HX.out
  obtain ⟨cX0, cX1, cX2, cX3, cX4, cX5⟩ := c6_of hx
  have zX := lt_of hx
  clear hx
  go_wp2_with fail
  refine (K1.out _).mono ?_
  rintro e w10 ⟨⟨⟨gv, gm⟩, ⟨gl, gh, gi, gj⟩⟩, rfl, hc1, hb⟩
  have HC1 := Lib.hid hc1
  obtain ⟨gb, hgb⟩ : ∃ b, o1.isSome = b := ⟨_, rfl⟩
  have HGB := Lib.hid hgb
  simp only [Sc.val]
  rw [hgb]
  have HR := Lib.hid (hb.heap HR.out (by simp))
  have HQ := Lib.hid (hb.heap HQ.out (by simp))
  have HB := Lib.hid (HB.out.trans hb (by simp))
  clear hb hc1 hgb HA HX
  clear zA cA0 cA1 cA2 cA3 cA4 cA5 zX cX0 cX1 cX2 cX3 cX4 cX5
  have hz10 := lt_of HQ.out
  go_upto_region 4 with (fail)
  generalize hw : World.alloc w10 _ = w11
  have HM : Hid (w11.heap[w10.heap.size]? = some (.cells #[.int .u64 gv, .int .u64 gm, .int .u64 gl, .int .u64 gh, .int .i64 gi, .int .i64 gj] 28)) := Lib.hid (by rw [← hw]; exact al_at _ _)
  have HR := Lib.hid (show w11.heap[w.heap.size + 1 + 1]? = some (.cells #[.int .u64 0, .int .u64 0, .int .u64 0, .int .u64 0, .int .i64 0, .int .i64 0] 28) from by rw [← hw]; exact al_keep HR.out _)
  have HQ := Lib.hid (show w11.heap[w.heap.size + 1 + 1 + 1]? = some (.cells #[.int .u64 0, .int .u64 0, .int .u64 0, .int .u64 0, .int .i64 0, .int .i64 0] 28) from by rw [← hw]; exact al_keep HQ.out _)
  have HB := Lib.hid (show But [] w w11 from by rw [← hw]; exact HB.out.alloc _)
  clear hw
  have hx := HM.out
  obtain ⟨cM0, cM1, cM2, cM3, cM4, cM5⟩ := c6_of hx
  have zM := lt_of hx
  clear hx
  have hx := HR.out
  obtain ⟨cR0, cR1, cR2, cR3, cR4, cR5⟩ := c6_of hx
  obtain ⟨fR0, fR1, fR2, fR3, fR4, fR5⟩ := f6_of hx
  have zR := lt_of hx
  clear hx
  have hx := HQ.out
  obtain ⟨cQ0, cQ1, cQ2, cQ3, cQ4, cQ5⟩ := c6_of hx
  obtain ⟨fQ0, fQ1, fQ2, fQ3, fQ4, fQ5⟩ := f6_of hx
  have zQ := lt_of hx
  clear hx
  go_region
  all_goals (repeat (first | go_values | go_skip | go_guarded | go_step | go_upon))
  all_goals exact bodyPost_ret (v := .tuple #[.agg #[.int .u64 gv, .int .u64 gm, .int .u64 gl, .int .u64 gh, .int .i64 gi, .int .i64 gj], .agg #[.int .u64 gv, .int .u64 gm, .int .u64 gl, .int .u64 gh, .int .i64 gi, .int .i64 gj], .bool gb]) (by simp [results, Try.results37, go_sem, cR0, cR1, cR2, cR3, cR4, cR5, cQ0, cQ1, cQ2, cQ3, cQ4, cQ5]) rfl (PairPost.mk ⟨⟨gv, gm⟩, ⟨gl, gh, gi, gj⟩⟩ ⟨⟨gv, gm⟩, ⟨gl, gh, gi, gj⟩⟩ (by rw [HO.out, pairO_is, HGB.out, Bool.and_self]; rfl) (fun x hx => by rw [HO.out] at hx; exact pairO_get HC1.out HC1.out x hx) (by
    repeat (first | with_reducible exact HB.out | with_reducible refine But.alloc ?_ _ | with_reducible refine But.drew ?_ | (with_reducible refine But.setCell ?_ (.inr ?_) _; rotate_left; (simp only []; omega)))))
set_option maxRecDepth 100000 in
set_option maxHeartbeats 4000000 in
theorem r21holds_80 (v m lo hi xv xm xlo xhi : Nat) (sl sh xsl xsh : Int) (w : World) (hr : Rg ⟨⟨v, m⟩, ⟨lo, hi, sl, sh⟩⟩) (hx : Rg ⟨⟨xv, xm⟩, ⟨xlo, xhi, xsl, xsh⟩⟩) (ia : sl ≤ sh) (ib : xsl ≤ xsh) : Calls Try.prog 37 #[.int .u8 80, .agg #[.int .u64 v, .int .u64 m, .int .u64 lo, .int .u64 hi, .int .i64 sl, .int .i64 sh], .agg #[.int .u64 xv, .int .u64 xm, .int .u64 xlo, .int .u64 xhi, .int .i64 xsl, .int .i64 xsh]] w (PairPost (holdT 80 ⟨⟨v, m⟩, ⟨lo, hi, sl, sh⟩⟩ ⟨⟨xv, xm⟩, ⟨xlo, xhi, xsl, xsh⟩⟩) w) := by
  have K1 := Lib.hid (fun w => r21without v m lo hi xv xm xlo xhi sl sh xsl xsh w hr hx)
  have K2 := Lib.hid (fun w => r21without xv xm xlo xhi v m lo hi xsl xsh sl sh w hx hr)
  obtain ⟨o1, ho1⟩ : ∃ o, o = otherT ⟨⟨v, m⟩, ⟨lo, hi, sl, sh⟩⟩ ⟨⟨xv, xm⟩, ⟨xlo, xhi, xsl, xsh⟩⟩ := ⟨_, rfl⟩
  obtain ⟨o2, ho2⟩ : ∃ o, o = otherT ⟨⟨xv, xm⟩, ⟨xlo, xhi, xsl, xsh⟩⟩ ⟨⟨v, m⟩, ⟨lo, hi, sl, sh⟩⟩ := ⟨_, rfl⟩
  have HO : holdT 80 ⟨⟨v, m⟩, ⟨lo, hi, sl, sh⟩⟩ ⟨⟨xv, xm⟩, ⟨xlo, xhi, xsl, xsh⟩⟩ = pairO o1 o2 := by rw [ho1, ho2]; rfl
  rw [HO]
  rw [← ho1] at K1
  rw [← ho2] at K2
  clear HO ho1 ho2 hr hx ia ib
  go_enter Try.func37, Try.ntmps37
  go_upto_region 6 with (fail)
  generalize hw : World.alloc _ _ = w9
  have HA : Hid (w9.heap[w.heap.size]? = some (.cells #[.int .u64 v, .int .u64 m, .int .u64 lo, .int .u64 hi, .int .i64 sl, .int .i64 sh] 28)) := Lib.hid (by rw [← hw]; exact (by repeat (first | (with_reducible refine al_eq _ _ _ ?_; (simp only [size_alloc]; done)) | with_reducible refine al_keep ?_ _ | with_reducible refine dr_keep ?_ | with_reducible refine drN_keep ?_)))
  have HX : Hid (w9.heap[w.heap.size + 1]? = some (.cells #[.int .u64 xv, .int .u64 xm, .int .u64 xlo, .int .u64 xhi, .int .i64 xsl, .int .i64 xsh] 28)) := Lib.hid (by rw [← hw]; exact (by repeat (first | (with_reducible refine al_eq _ _ _ ?_; (simp only [size_alloc]; done)) | with_reducible refine al_keep ?_ _ | with_reducible refine dr_keep ?_ | with_reducible refine drN_keep ?_)))
  have HR : Hid (w9.heap[w.heap.size + 1 + 1]? = some (.cells #[.int .u64 0, .int .u64 0, .int .u64 0, .int .u64 0, .int .i64 0, .int .i64 0] 28)) := Lib.hid (by rw [← hw]; exact (by repeat (first | (with_reducible refine al_eq _ _ _ ?_; (simp only [size_alloc]; done)) | with_reducible refine al_keep ?_ _ | with_reducible refine dr_keep ?_ | with_reducible refine drN_keep ?_)))
  have HQ : Hid (w9.heap[w.heap.size + 1 + 1 + 1]? = some (.cells #[.int .u64 0, .int .u64 0, .int .u64 0, .int .u64 0, .int .i64 0, .int .i64 0] 28)) := Lib.hid (by rw [← hw]; exact (by repeat (first | (with_reducible refine al_eq _ _ _ ?_; (simp only [size_alloc]; done)) | with_reducible refine al_keep ?_ _ | with_reducible refine dr_keep ?_ | with_reducible refine drN_keep ?_)))
  have HB : Hid (But [] w w9) := Lib.hid (by rw [← hw]; exact (by repeat (first | with_reducible exact But.refl _ _ | with_reducible refine But.drew ?_ | with_reducible refine drN_but ?_ | with_reducible refine But.alloc ?_ _)))
  clear hw
  have HZ : Hid (w.heap.size + 1 + 1 + 1 < w9.heap.size) := Lib.hid (lt_of HQ.out)
  have hx := HA.out
  obtain ⟨cA0, cA1, cA2, cA3, cA4, cA5⟩ := c6_of hx
  have zA := lt_of hx
  clear hx
  have hx := HX.out
  obtain ⟨cX0, cX1, cX2, cX3, cX4, cX5⟩ := c6_of hx
  have zX := lt_of hx
  clear hx
  go_wp2_with fail
  refine (K1.out _).mono ?_
  rintro e w10 ⟨⟨⟨gv, gm⟩, ⟨gl, gh, gi, gj⟩⟩, rfl, hc1, hb⟩
  have HC1 := Lib.hid hc1
  obtain ⟨gb, hgb⟩ : ∃ b, o1.isSome = b := ⟨_, rfl⟩
  have HGB := Lib.hid hgb
  simp only [Sc.val]
  rw [hgb]
  have HA := Lib.hid (hb.heap HA.out (by simp))
  have HX := Lib.hid (hb.heap HX.out (by simp))
  have HR := Lib.hid (hb.heap HR.out (by simp))
  have HQ := Lib.hid (hb.heap HQ.out (by simp))
  have HB := Lib.hid (HB.out.trans hb (by simp))
  clear hb hc1 hgb zA cA0 cA1 cA2 cA3 cA4 cA5 zX cX0 cX1 cX2 cX3 cX4 cX5
  have hz10 := lt_of HQ.out
  go_upto_region 7 with (fail)
  generalize hw : World.alloc w10 _ = w11
  have HM : Hid (w11.heap[w10.heap.size]? = some (.cells #[.int .u64 gv, .int .u64 gm, .int .u64 gl, .int .u64 gh, .int .i64 gi, .int .i64 gj] 28)) := Lib.hid (by rw [← hw]; exact al_at _ _)
  have HA := Lib.hid (show w11.heap[w.heap.size]? = some (.cells #[.int .u64 v, .int .u64 m, .int .u64 lo, .int .u64 hi, .int .i64 sl, .int .i64 sh] 28) from by rw [← hw]; exact al_keep HA.out _)
  have HX := Lib.hid (show w11.heap[w.heap.size + 1]? = some (.cells #[.int .u64 xv, .int .u64 xm, .int .u64 xlo, .int .u64 xhi, .int .i64 xsl, .int .i64 xsh] 28) from by rw [← hw]; exact al_keep HX.out _)
  have HR := Lib.hid (show w11.heap[w.heap.size + 1 + 1]? = some (.cells #[.int .u64 0, .int .u64 0, .int .u64 0, .int .u64 0, .int .i64 0, .int .i64 0] 28) from by rw [← hw]; exact al_keep HR.out _)
  have HQ := Lib.hid (show w11.heap[w.heap.size + 1 + 1 + 1]? = some (.cells #[.int .u64 0, .int .u64 0, .int .u64 0, .int .u64 0, .int .i64 0, .int .i64 0] 28) from by rw [← hw]; exact al_keep HQ.out _)
  have HB := Lib.hid (show But [] w w11 from by rw [← hw]; exact HB.out.alloc _)
  clear hw
  have hx := HX.out
  obtain ⟨cX0, cX1, cX2, cX3, cX4, cX5⟩ := c6_of hx
  have zX := lt_of hx
  clear hx
  have hx := HA.out
  obtain ⟨cA0, cA1, cA2, cA3, cA4, cA5⟩ := c6_of hx
  have zA := lt_of hx
  clear hx
  go_wp2_with fail
  refine (K2.out _).mono ?_
  rintro e w12 ⟨⟨⟨dv, dm⟩, ⟨dl, dh, di, dj⟩⟩, rfl, hc2, hb⟩
  have HC2 := Lib.hid hc2
  obtain ⟨db, hdb⟩ : ∃ b, o2.isSome = b := ⟨_, rfl⟩
  have HDB := Lib.hid hdb
  simp only [Sc.val]
  rw [hdb]
  have HM := Lib.hid (hb.heap HM.out (by simp))
  have HR := Lib.hid (hb.heap HR.out (by simp))
  have HQ := Lib.hid (hb.heap HQ.out (by simp))
  have HB := Lib.hid (HB.out.trans hb (by simp))
  clear hb hc2 hdb HA HX zX cX0 cX1 cX2 cX3 cX4 cX5 zA cA0 cA1 cA2 cA3 cA4 cA5
  have hz12 := lt_of HQ.out
  go_upto_region 8 with (fail)
  generalize hw : World.alloc w12 _ = w13
  have HN : Hid (w13.heap[w12.heap.size]? = some (.cells #[.int .u64 dv, .int .u64 dm, .int .u64 dl, .int .u64 dh, .int .i64 di, .int .i64 dj] 28)) := Lib.hid (by rw [← hw]; exact al_at _ _)
  have HM := Lib.hid (show w13.heap[w10.heap.size]? = some (.cells #[.int .u64 gv, .int .u64 gm, .int .u64 gl, .int .u64 gh, .int .i64 gi, .int .i64 gj] 28) from by rw [← hw]; exact al_keep HM.out _)
  have HR := Lib.hid (show w13.heap[w.heap.size + 1 + 1]? = some (.cells #[.int .u64 0, .int .u64 0, .int .u64 0, .int .u64 0, .int .i64 0, .int .i64 0] 28) from by rw [← hw]; exact al_keep HR.out _)
  have HQ := Lib.hid (show w13.heap[w.heap.size + 1 + 1 + 1]? = some (.cells #[.int .u64 0, .int .u64 0, .int .u64 0, .int .u64 0, .int .i64 0, .int .i64 0] 28) from by rw [← hw]; exact al_keep HQ.out _)
  have HB := Lib.hid (show But [] w w13 from by rw [← hw]; exact HB.out.alloc _)
  clear hw
  have hx := HM.out
  obtain ⟨cM0, cM1, cM2, cM3, cM4, cM5⟩ := c6_of hx
  have zM := lt_of hx
  clear hx
  have hx := HN.out
  obtain ⟨cN0, cN1, cN2, cN3, cN4, cN5⟩ := c6_of hx
  have zN := lt_of hx
  clear hx
  have hx := HR.out
  obtain ⟨cR0, cR1, cR2, cR3, cR4, cR5⟩ := c6_of hx
  obtain ⟨fR0, fR1, fR2, fR3, fR4, fR5⟩ := f6_of hx
  have zR := lt_of hx
  clear hx
  have hx := HQ.out
  obtain ⟨cQ0, cQ1, cQ2, cQ3, cQ4, cQ5⟩ := c6_of hx
  obtain ⟨fQ0, fQ1, fQ2, fQ3, fQ4, fQ5⟩ := f6_of hx
  have zQ := lt_of hx
  clear hx
  cases gb with
  | false =>
    go_region
    all_goals (repeat (first | go_values | go_skip | go_guarded | go_step | go_upon))
    all_goals exact bodyPost_ret (v := .tuple #[.agg #[.int .u64 gv, .int .u64 gm, .int .u64 gl, .int .u64 gh, .int .i64 gi, .int .i64 gj], .agg #[.int .u64 dv, .int .u64 dm, .int .u64 dl, .int .u64 dh, .int .i64 di, .int .i64 dj], .bool false]) (by simp [results, Try.results37, go_sem, cR0, cR1, cR2, cR3, cR4, cR5, cQ0, cQ1, cQ2, cQ3, cQ4, cQ5]) rfl (PairPost.mk ⟨⟨gv, gm⟩, ⟨gl, gh, gi, gj⟩⟩ ⟨⟨dv, dm⟩, ⟨dl, dh, di, dj⟩⟩ (by rw [pairO_is, HGB.out, HDB.out]; rfl) (pairO_get HC1.out HC2.out) (by
    repeat (first | with_reducible exact HB.out | with_reducible refine But.alloc ?_ _ | with_reducible refine But.drew ?_ | (with_reducible refine But.setCell ?_ (.inr ?_) _; rotate_left; (simp only []; omega)))))
  | true =>
    cases db with
    | false =>
      go_region
      all_goals (repeat (first | go_values | go_skip | go_guarded | go_step | go_upon))
      all_goals exact bodyPost_ret (v := .tuple #[.agg #[.int .u64 gv, .int .u64 gm, .int .u64 gl, .int .u64 gh, .int .i64 gi, .int .i64 gj], .agg #[.int .u64 dv, .int .u64 dm, .int .u64 dl, .int .u64 dh, .int .i64 di, .int .i64 dj], .bool false]) (by simp [results, Try.results37, go_sem, cR0, cR1, cR2, cR3, cR4, cR5, cQ0, cQ1, cQ2, cQ3, cQ4, cQ5]) rfl (PairPost.mk ⟨⟨gv, gm⟩, ⟨gl, gh, gi, gj⟩⟩ ⟨⟨dv, dm⟩, ⟨dl, dh, di, dj⟩⟩ (by rw [pairO_is, HGB.out, HDB.out]; rfl) (pairO_get HC1.out HC2.out) (by
    repeat (first | with_reducible exact HB.out | with_reducible refine But.alloc ?_ _ | with_reducible refine But.drew ?_ | (with_reducible refine But.setCell ?_ (.inr ?_) _; rotate_left; (simp only []; omega)))))
    | true =>
      go_region
      all_goals (repeat (first | go_values | go_skip | go_guarded | go_step | go_upon))
      all_goals exact bodyPost_ret (v := .tuple #[.agg #[.int .u64 gv, .int .u64 gm, .int .u64 gl, .int .u64 gh, .int .i64 gi, .int .i64 gj], .agg #[.int .u64 dv, .int .u64 dm, .int .u64 dl, .int .u64 dh, .int .i64 di, .int .i64 dj], .bool true]) (by simp [results, Try.results37, go_sem, cR0, cR1, cR2, cR3, cR4, cR5, cQ0, cQ1, cQ2, cQ3, cQ4, cQ5]) rfl (PairPost.mk ⟨⟨gv, gm⟩, ⟨gl, gh, gi, gj⟩⟩ ⟨⟨dv, dm⟩, ⟨dl, dh, di, dj⟩⟩ (by rw [pairO_is, HGB.out, HDB.out]; rfl) (pairO_get HC1.out HC2.out) (by
    repeat (first | with_reducible exact HB.out | with_reducible refine But.alloc ?_ _ | with_reducible refine But.drew ?_ | (with_reducible refine But.setCell ?_ (.inr ?_) _; rotate_left; (simp only []; omega)))))
set_option maxRecDepth 100000 in
set_option maxHeartbeats 4000000 in
theorem r21holds_1 (v m lo hi xv xm xlo xhi : Nat) (sl sh xsl xsh : Int) (w : World) (hr : Rg ⟨⟨v, m⟩, ⟨lo, hi, sl, sh⟩⟩) (hx : Rg ⟨⟨xv, xm⟩, ⟨xlo, xhi, xsl, xsh⟩⟩) (ia : sl ≤ sh) (ib : xsl ≤ xsh) : Calls Try.prog 37 #[.int .u8 1, .agg #[.int .u64 v, .int .u64 m, .int .u64 lo, .int .u64 hi, .int .i64 sl, .int .i64 sh], .agg #[.int .u64 xv, .int .u64 xm, .int .u64 xlo, .int .u64 xhi, .int .i64 xsl, .int .i64 xsh]] w (PairPost (holdT 1 ⟨⟨v, m⟩, ⟨lo, hi, sl, sh⟩⟩ ⟨⟨xv, xm⟩, ⟨xlo, xhi, xsl, xsh⟩⟩) w) := by
  have K1 : Hid (∀ w, Calls Try.prog 74 #[.agg #[.int .u64 v, .int .u64 m, .int .u64 lo, .int .u64 hi, .int .i64 sl, .int .i64 sh], .int .u64 xv, .int .u64 0] w (RulePost (noneT ⟨⟨v, m⟩, ⟨lo, hi, sl, sh⟩⟩ ⟨⟨xv, xm⟩, ⟨xlo, xhi, xsl, xsh⟩⟩) w)) := Lib.hid (fun w => r21known v m lo hi sl sh xv 0 w hx.v (by decide) hr)
  have K2 : Hid (∀ w, Calls Try.prog 74 #[.agg #[.int .u64 xv, .int .u64 xm, .int .u64 xlo, .int .u64 xhi, .int .i64 xsl, .int .i64 xsh], .int .u64 v, .int .u64 0] w (RulePost (noneT ⟨⟨xv, xm⟩, ⟨xlo, xhi, xsl, xsh⟩⟩ ⟨⟨v, m⟩, ⟨lo, hi, sl, sh⟩⟩) w)) := Lib.hid (fun w => r21known xv xm xlo xhi xsl xsh v 0 w hr.v (by decide) hx)
  obtain ⟨o1, ho1⟩ : ∃ o, o = noneT ⟨⟨v, m⟩, ⟨lo, hi, sl, sh⟩⟩ ⟨⟨xv, xm⟩, ⟨xlo, xhi, xsl, xsh⟩⟩ := ⟨_, rfl⟩
  obtain ⟨o2, ho2⟩ : ∃ o, o = noneT ⟨⟨xv, xm⟩, ⟨xlo, xhi, xsl, xsh⟩⟩ ⟨⟨v, m⟩, ⟨lo, hi, sl, sh⟩⟩ := ⟨_, rfl⟩
  have HO : holdT 1 ⟨⟨v, m⟩, ⟨lo, hi, sl, sh⟩⟩ ⟨⟨xv, xm⟩, ⟨xlo, xhi, xsl, xsh⟩⟩ = pairO o1 o2 := by rw [ho1, ho2]; rfl
  rw [HO]
  rw [← ho1] at K1
  rw [← ho2] at K2
  clear HO ho1 ho2 hr hx ia ib
  go_enter Try.func37, Try.ntmps37
  go_upto_region 25 with (fail)
  generalize hw : World.alloc _ _ = w9
  have HA : Hid (w9.heap[w.heap.size]? = some (.cells #[.int .u64 v, .int .u64 m, .int .u64 lo, .int .u64 hi, .int .i64 sl, .int .i64 sh] 28)) := Lib.hid (by rw [← hw]; exact (by repeat (first | (with_reducible refine al_eq _ _ _ ?_; (simp only [size_alloc]; done)) | with_reducible refine al_keep ?_ _ | with_reducible refine dr_keep ?_ | with_reducible refine drN_keep ?_)))
  have HX : Hid (w9.heap[w.heap.size + 1]? = some (.cells #[.int .u64 xv, .int .u64 xm, .int .u64 xlo, .int .u64 xhi, .int .i64 xsl, .int .i64 xsh] 28)) := Lib.hid (by rw [← hw]; exact (by repeat (first | (with_reducible refine al_eq _ _ _ ?_; (simp only [size_alloc]; done)) | with_reducible refine al_keep ?_ _ | with_reducible refine dr_keep ?_ | with_reducible refine drN_keep ?_)))
  have HR : Hid (w9.heap[w.heap.size + 1 + 1]? = some (.cells #[.int .u64 0, .int .u64 0, .int .u64 0, .int .u64 0, .int .i64 0, .int .i64 0] 28)) := Lib.hid (by rw [← hw]; exact (by repeat (first | (with_reducible refine al_eq _ _ _ ?_; (simp only [size_alloc]; done)) | with_reducible refine al_keep ?_ _ | with_reducible refine dr_keep ?_ | with_reducible refine drN_keep ?_)))
  have HQ : Hid (w9.heap[w.heap.size + 1 + 1 + 1]? = some (.cells #[.int .u64 0, .int .u64 0, .int .u64 0, .int .u64 0, .int .i64 0, .int .i64 0] 28)) := Lib.hid (by rw [← hw]; exact (by repeat (first | (with_reducible refine al_eq _ _ _ ?_; (simp only [size_alloc]; done)) | with_reducible refine al_keep ?_ _ | with_reducible refine dr_keep ?_ | with_reducible refine drN_keep ?_)))
  have HB : Hid (But [] w w9) := Lib.hid (by rw [← hw]; exact (by repeat (first | with_reducible exact But.refl _ _ | with_reducible refine But.drew ?_ | with_reducible refine drN_but ?_ | with_reducible refine But.alloc ?_ _)))
  clear hw
  have HZ : Hid (w.heap.size + 1 + 1 + 1 < w9.heap.size) := Lib.hid (lt_of HQ.out)
  have hx := HA.out
  obtain ⟨cA0, cA1, cA2, cA3, cA4, cA5⟩ := c6_of hx
  have zA := lt_of hx
  clear hx
  have hx := HX.out
  obtain ⟨cX0, cX1, cX2, cX3, cX4, cX5⟩ := c6_of hx
  have zX := lt_of hx
  clear hx
  go_wp2_with fail
  refine (K1.out _).mono ?_
  rintro e w10 ⟨⟨⟨gv, gm⟩, ⟨gl, gh, gi, gj⟩⟩, rfl, hc1, hb⟩
  have HC1 := Lib.hid hc1
  obtain ⟨gb, hgb⟩ : ∃ b, o1.isSome = b := ⟨_, rfl⟩
  have HGB := Lib.hid hgb
  simp only [Sc.val]
  rw [hgb]
  have HA := Lib.hid (hb.heap HA.out (by simp))
  have HX := Lib.hid (hb.heap HX.out (by simp))
  have HR := Lib.hid (hb.heap HR.out (by simp))
  have HQ := Lib.hid (hb.heap HQ.out (by simp))
  have HB := Lib.hid (HB.out.trans hb (by simp))
  clear hb hc1 hgb zA cA0 cA1 cA2 cA3 cA4 cA5 zX cX0 cX1 cX2 cX3 cX4 cX5
  have hz10 := lt_of HQ.out
  go_upto_region 26 with (fail)
  generalize hw : World.alloc w10 _ = w11
  have HM : Hid (w11.heap[w10.heap.size]? = some (.cells #[.int .u64 gv, .int .u64 gm, .int .u64 gl, .int .u64 gh, .int .i64 gi, .int .i64 gj] 28)) := Lib.hid (by rw [← hw]; exact al_at _ _)
  have HA := Lib.hid (show w11.heap[w.heap.size]? = some (.cells #[.int .u64 v, .int .u64 m, .int .u64 lo, .int .u64 hi, .int .i64 sl, .int .i64 sh] 28) from by rw [← hw]; exact al_keep HA.out _)
  have HX := Lib.hid (show w11.heap[w.heap.size + 1]? = some (.cells #[.int .u64 xv, .int .u64 xm, .int .u64 xlo, .int .u64 xhi, .int .i64 xsl, .int .i64 xsh] 28) from by rw [← hw]; exact al_keep HX.out _)
  have HR := Lib.hid (show w11.heap[w.heap.size + 1 + 1]? = some (.cells #[.int .u64 0, .int .u64 0, .int .u64 0, .int .u64 0, .int .i64 0, .int .i64 0] 28) from by rw [← hw]; exact al_keep HR.out _)
  have HQ := Lib.hid (show w11.heap[w.heap.size + 1 + 1 + 1]? = some (.cells #[.int .u64 0, .int .u64 0, .int .u64 0, .int .u64 0, .int .i64 0, .int .i64 0] 28) from by rw [← hw]; exact al_keep HQ.out _)
  have HB := Lib.hid (show But [] w w11 from by rw [← hw]; exact HB.out.alloc _)
  clear hw
  have hx := HX.out
  obtain ⟨cX0, cX1, cX2, cX3, cX4, cX5⟩ := c6_of hx
  have zX := lt_of hx
  clear hx
  have hx := HA.out
  obtain ⟨cA0, cA1, cA2, cA3, cA4, cA5⟩ := c6_of hx
  have zA := lt_of hx
  clear hx
  go_wp2_with fail
  refine (K2.out _).mono ?_
  rintro e w12 ⟨⟨⟨dv, dm⟩, ⟨dl, dh, di, dj⟩⟩, rfl, hc2, hb⟩
  have HC2 := Lib.hid hc2
  obtain ⟨db, hdb⟩ : ∃ b, o2.isSome = b := ⟨_, rfl⟩
  have HDB := Lib.hid hdb
  simp only [Sc.val]
  rw [hdb]
  have HM := Lib.hid (hb.heap HM.out (by simp))
  have HR := Lib.hid (hb.heap HR.out (by simp))
  have HQ := Lib.hid (hb.heap HQ.out (by simp))
  have HB := Lib.hid (HB.out.trans hb (by simp))
  clear hb hc2 hdb HA HX zX cX0 cX1 cX2 cX3 cX4 cX5 zA cA0 cA1 cA2 cA3 cA4 cA5
  have hz12 := lt_of HQ.out
  go_upto_region 27 with (fail)
  generalize hw : World.alloc w12 _ = w13
  have HN : Hid (w13.heap[w12.heap.size]? = some (.cells #[.int .u64 dv, .int .u64 dm, .int .u64 dl, .int .u64 dh, .int .i64 di, .int .i64 dj] 28)) := Lib.hid (by rw [← hw]; exact al_at _ _)
  have HM := Lib.hid (show w13.heap[w10.heap.size]? = some (.cells #[.int .u64 gv, .int .u64 gm, .int .u64 gl, .int .u64 gh, .int .i64 gi, .int .i64 gj] 28) from by rw [← hw]; exact al_keep HM.out _)
  have HR := Lib.hid (show w13.heap[w.heap.size + 1 + 1]? = some (.cells #[.int .u64 0, .int .u64 0, .int .u64 0, .int .u64 0, .int .i64 0, .int .i64 0] 28) from by rw [← hw]; exact al_keep HR.out _)
  have HQ := Lib.hid (show w13.heap[w.heap.size + 1 + 1 + 1]? = some (.cells #[.int .u64 0, .int .u64 0, .int .u64 0, .int .u64 0, .int .i64 0, .int .i64 0] 28) from by rw [← hw]; exact al_keep HQ.out _)
  have HB := Lib.hid (show But [] w w13 from by rw [← hw]; exact HB.out.alloc _)
  clear hw
  have hx := HM.out
  obtain ⟨cM0, cM1, cM2, cM3, cM4, cM5⟩ := c6_of hx
  have zM := lt_of hx
  clear hx
  have hx := HN.out
  obtain ⟨cN0, cN1, cN2, cN3, cN4, cN5⟩ := c6_of hx
  have zN := lt_of hx
  clear hx
  have hx := HR.out
  obtain ⟨cR0, cR1, cR2, cR3, cR4, cR5⟩ := c6_of hx
  obtain ⟨fR0, fR1, fR2, fR3, fR4, fR5⟩ := f6_of hx
  have zR := lt_of hx
  clear hx
  have hx := HQ.out
  obtain ⟨cQ0, cQ1, cQ2, cQ3, cQ4, cQ5⟩ := c6_of hx
  obtain ⟨fQ0, fQ1, fQ2, fQ3, fQ4, fQ5⟩ := f6_of hx
  have zQ := lt_of hx
  clear hx
  cases gb with
  | false =>
    go_region
    all_goals (repeat (first | go_values | go_skip | go_guarded | go_step | go_upon))
    all_goals exact bodyPost_ret (v := .tuple #[.agg #[.int .u64 gv, .int .u64 gm, .int .u64 gl, .int .u64 gh, .int .i64 gi, .int .i64 gj], .agg #[.int .u64 dv, .int .u64 dm, .int .u64 dl, .int .u64 dh, .int .i64 di, .int .i64 dj], .bool false]) (by simp [results, Try.results37, go_sem, cR0, cR1, cR2, cR3, cR4, cR5, cQ0, cQ1, cQ2, cQ3, cQ4, cQ5]) rfl (PairPost.mk ⟨⟨gv, gm⟩, ⟨gl, gh, gi, gj⟩⟩ ⟨⟨dv, dm⟩, ⟨dl, dh, di, dj⟩⟩ (by rw [pairO_is, HGB.out, HDB.out]; rfl) (pairO_get HC1.out HC2.out) (by
    repeat (first | with_reducible exact HB.out | with_reducible refine But.alloc ?_ _ | with_reducible refine But.drew ?_ | (with_reducible refine But.setCell ?_ (.inr ?_) _; rotate_left; (simp only []; omega)))))
  | true =>
    cases db with
    | false =>
      go_region
      all_goals (repeat (first | go_values | go_skip | go_guarded | go_step | go_upon))
      all_goals exact bodyPost_ret (v := .tuple #[.agg #[.int .u64 gv, .int .u64 gm, .int .u64 gl, .int .u64 gh, .int .i64 gi, .int .i64 gj], .agg #[.int .u64 dv, .int .u64 dm, .int .u64 dl, .int .u64 dh, .int .i64 di, .int .i64 dj], .bool false]) (by simp [results, Try.results37, go_sem, cR0, cR1, cR2, cR3, cR4, cR5, cQ0, cQ1, cQ2, cQ3, cQ4, cQ5]) rfl (PairPost.mk ⟨⟨gv, gm⟩, ⟨gl, gh, gi, gj⟩⟩ ⟨⟨dv, dm⟩, ⟨dl, dh, di, dj⟩⟩ (by rw [pairO_is, HGB.out, HDB.out]; rfl) (pairO_get HC1.out HC2.out) (by
    repeat (first | with_reducible exact HB.out | with_reducible refine But.alloc ?_ _ | with_reducible refine But.drew ?_ | (with_reducible refine But.setCell ?_ (.inr ?_) _; rotate_left; (simp only []; omega)))))
    | true =>
      go_region
      all_goals (repeat (first | go_values | go_skip | go_guarded | go_step | go_upon))
      all_goals exact bodyPost_ret (v := .tuple #[.agg #[.int .u64 gv, .int .u64 gm, .int .u64 gl, .int .u64 gh, .int .i64 gi, .int .i64 gj], .agg #[.int .u64 dv, .int .u64 dm, .int .u64 dl, .int .u64 dh, .int .i64 di, .int .i64 dj], .bool true]) (by simp [results, Try.results37, go_sem, cR0, cR1, cR2, cR3, cR4, cR5, cQ0, cQ1, cQ2, cQ3, cQ4, cQ5]) rfl (PairPost.mk ⟨⟨gv, gm⟩, ⟨gl, gh, gi, gj⟩⟩ ⟨⟨dv, dm⟩, ⟨dl, dh, di, dj⟩⟩ (by rw [pairO_is, HGB.out, HDB.out]; rfl) (pairO_get HC1.out HC2.out) (by
    repeat (first | with_reducible exact HB.out | with_reducible refine But.alloc ?_ _ | with_reducible refine But.drew ?_ | (with_reducible refine But.setCell ?_ (.inr ?_) _; rotate_left; (simp only []; omega)))))
set_option maxRecDepth 100000 in
set_option maxHeartbeats 4000000 in
theorem r21holds_160 (v m lo hi xv xm xlo xhi : Nat) (sl sh xsl xsh : Int) (w : World) (hr : Rg ⟨⟨v, m⟩, ⟨lo, hi, sl, sh⟩⟩) (hx : Rg ⟨⟨xv, xm⟩, ⟨xlo, xhi, xsl, xsh⟩⟩) (ia : sl ≤ sh) (ib : xsl ≤ xsh) : Calls Try.prog 37 #[.int .u8 160, .agg #[.int .u64 v, .int .u64 m, .int .u64 lo, .int .u64 hi, .int .i64 sl, .int .i64 sh], .agg #[.int .u64 xv, .int .u64 xm, .int .u64 xlo, .int .u64 xhi, .int .i64 xsl, .int .i64 xsh]] w (PairPost (holdT 160 ⟨⟨v, m⟩, ⟨lo, hi, sl, sh⟩⟩ ⟨⟨xv, xm⟩, ⟨xlo, xhi, xsl, xsh⟩⟩) w) := by
  have K1 := Lib.hid (fun w => r21less_false v m lo hi xv xm xlo xhi sl sh xsl xsh w hr hx)
  obtain ⟨o1, ho1⟩ : ∃ o, o = lowT false ⟨⟨v, m⟩, ⟨lo, hi, sl, sh⟩⟩ ⟨⟨xv, xm⟩, ⟨xlo, xhi, xsl, xsh⟩⟩ := ⟨_, rfl⟩
  obtain ⟨o2, ho2⟩ : ∃ o, o = uppT false ⟨⟨xv, xm⟩, ⟨xlo, xhi, xsl, xsh⟩⟩ ⟨⟨v, m⟩, ⟨lo, hi, sl, sh⟩⟩ := ⟨_, rfl⟩
  have HO : holdT 160 ⟨⟨v, m⟩, ⟨lo, hi, sl, sh⟩⟩ ⟨⟨xv, xm⟩, ⟨xlo, xhi, xsl, xsh⟩⟩ = pairO o1 o2 := by rw [ho1, ho2]; rfl
  rw [HO]
  rw [← ho1, ← ho2] at K1
  clear HO ho1 ho2 hr hx ia ib
  go_enter Try.func37, Try.ntmps37
  go_upto_region 11 with (fail)
  generalize hw : World.alloc _ _ = w9
  have HA : Hid (w9.heap[w.heap.size]? = some (.cells #[.int .u64 v, .int .u64 m, .int .u64 lo, .int .u64 hi, .int .i64 sl, .int .i64 sh] 28)) := Lib.hid (by rw [← hw]; exact (by repeat (first | (with_reducible refine al_eq _ _ _ ?_; (simp only [size_alloc]; done)) | with_reducible refine al_keep ?_ _ | with_reducible refine dr_keep ?_ | with_reducible refine drN_keep ?_)))
  have HX : Hid (w9.heap[w.heap.size + 1]? = some (.cells #[.int .u64 xv, .int .u64 xm, .int .u64 xlo, .int .u64 xhi, .int .i64 xsl, .int .i64 xsh] 28)) := Lib.hid (by rw [← hw]; exact (by repeat (first | (with_reducible refine al_eq _ _ _ ?_; (simp only [size_alloc]; done)) | with_reducible refine al_keep ?_ _ | with_reducible refine dr_keep ?_ | with_reducible refine drN_keep ?_)))
  have HR : Hid (w9.heap[w.heap.size + 1 + 1]? = some (.cells #[.int .u64 0, .int .u64 0, .int .u64 0, .int .u64 0, .int .i64 0, .int .i64 0] 28)) := Lib.hid (by rw [← hw]; exact (by repeat (first | (with_reducible refine al_eq _ _ _ ?_; (simp only [size_alloc]; done)) | with_reducible refine al_keep ?_ _ | with_reducible refine dr_keep ?_ | with_reducible refine drN_keep ?_)))
  have HQ : Hid (w9.heap[w.heap.size + 1 + 1 + 1]? = some (.cells #[.int .u64 0, .int .u64 0, .int .u64 0, .int .u64 0, .int .i64 0, .int .i64 0] 28)) := Lib.hid (by rw [← hw]; exact (by repeat (first | (with_reducible refine al_eq _ _ _ ?_; (simp only [size_alloc]; done)) | with_reducible refine al_keep ?_ _ | with_reducible refine dr_keep ?_ | with_reducible refine drN_keep ?_)))
  have HB : Hid (But [] w w9) := Lib.hid (by rw [← hw]; exact (by repeat (first | with_reducible exact But.refl _ _ | with_reducible refine But.drew ?_ | with_reducible refine drN_but ?_ | with_reducible refine But.alloc ?_ _)))
  clear hw
  have hx := HA.out
  obtain ⟨cA0, cA1, cA2, cA3, cA4, cA5⟩ := c6_of hx
  have zA := lt_of hx
  clear hx
  have hx := HX.out
  obtain ⟨cX0, cX1, cX2, cX3, cX4, cX5⟩ := c6_of hx
  have zX := lt_of hx
  clear hx
  go_wp2_with fail
  refine (K1.out _).mono ?_
  rintro e w10 ⟨⟨⟨gv, gm⟩, ⟨gl, gh, gi, gj⟩⟩, ⟨⟨dv, dm⟩, ⟨dl, dh, di, dj⟩⟩, rfl, hc1, hb⟩
  have HC1 := Lib.hid hc1
  obtain ⟨gb, hgb⟩ : ∃ b, (pairO o1 o2).isSome = b := ⟨_, rfl⟩
  have HGB := Lib.hid hgb
  simp only [Sc.val]
  rw [hgb]
  have HR := Lib.hid (hb.heap HR.out (by simp))
  have HQ := Lib.hid (hb.heap HQ.out (by simp))
  have HB := Lib.hid (HB.out.trans hb (by simp))
  clear hb hc1 hgb HA HX
  clear zA cA0 cA1 cA2 cA3 cA4 cA5 zX cX0 cX1 cX2 cX3 cX4 cX5
  have hx := HR.out
  obtain ⟨cR0, cR1, cR2, cR3, cR4, cR5⟩ := c6_of hx
  obtain ⟨fR0, fR1, fR2, fR3, fR4, fR5⟩ := f6_of hx
  have zR := lt_of hx
  clear hx
  have hx := HQ.out
  obtain ⟨cQ0, cQ1, cQ2, cQ3, cQ4, cQ5⟩ := c6_of hx
  obtain ⟨fQ0, fQ1, fQ2, fQ3, fQ4, fQ5⟩ := f6_of hx
  have zQ := lt_of hx
  clear hx
  try simp only []
  all_goals (repeat (first | go_values | go_skip | go_guarded | go_step | go_upon))
  all_goals exact bodyPost_ret (v := .tuple #[.agg #[.int .u64 gv, .int .u64 gm, .int .u64 gl, .int .u64 gh, .int .i64 gi, .int .i64 gj], .agg #[.int .u64 dv, .int .u64 dm, .int .u64 dl, .int .u64 dh, .int .i64 di, .int .i64 dj], .bool gb]) (by simp [results, Try.results37, go_sem, cR0, cR1, cR2, cR3, cR4, cR5, cQ0, cQ1, cQ2, cQ3, cQ4, cQ5]) rfl (PairPost.mk ⟨⟨gv, gm⟩, ⟨gl, gh, gi, gj⟩⟩ ⟨⟨dv, dm⟩, ⟨dl, dh, di, dj⟩⟩ (by rw [HGB.out]; rfl) (HC1.out) (by
    repeat (first | with_reducible exact HB.out | with_reducible refine But.alloc ?_ _ | with_reducible refine But.drew ?_ | (with_reducible refine But.setCell ?_ (.inr ?_) _; rotate_left; (simp only []; omega)))))
set_option maxRecDepth 100000 in
set_option maxHeartbeats 4000000 in
theorem r21holds_176 (v m lo hi xv xm xlo xhi : Nat) (sl sh xsl xsh : Int) (w : World) (hr : Rg ⟨⟨v, m⟩, ⟨lo, hi, sl, sh⟩⟩) (hx : Rg ⟨⟨xv, xm⟩, ⟨xlo, xhi, xsl, xsh⟩⟩) (ia : sl ≤ sh) (ib : xsl ≤ xsh) : Calls Try.prog 37 #[.int .u8 176, .agg #[.int .u64 v, .int .u64 m, .int .u64 lo, .int .u64 hi, .int .i64 sl, .int .i64 sh], .agg #[.int .u64 xv, .int .u64 xm, .int .u64 xlo, .int .u64 xhi, .int .i64 xsl, .int .i64 xsh]] w (PairPost (holdT 176 ⟨⟨v, m⟩, ⟨lo, hi, sl, sh⟩⟩ ⟨⟨xv, xm⟩, ⟨xlo, xhi, xsl, xsh⟩⟩) w) := by
  have K1 := Lib.hid (fun w => r21less_true v m lo hi xv xm xlo xhi sl sh xsl xsh w hr hx)
  obtain ⟨o1, ho1⟩ : ∃ o, o = lowT true ⟨⟨v, m⟩, ⟨lo, hi, sl, sh⟩⟩ ⟨⟨xv, xm⟩, ⟨xlo, xhi, xsl, xsh⟩⟩ := ⟨_, rfl⟩
  obtain ⟨o2, ho2⟩ : ∃ o, o = uppT true ⟨⟨xv, xm⟩, ⟨xlo, xhi, xsl, xsh⟩⟩ ⟨⟨v, m⟩, ⟨lo, hi, sl, sh⟩⟩ := ⟨_, rfl⟩
  have HO : holdT 176 ⟨⟨v, m⟩, ⟨lo, hi, sl, sh⟩⟩ ⟨⟨xv, xm⟩, ⟨xlo, xhi, xsl, xsh⟩⟩ = pairO o1 o2 := by rw [ho1, ho2]; rfl
  rw [HO]
  rw [← ho1, ← ho2] at K1
  clear HO ho1 ho2 hr hx ia ib
  go_enter Try.func37, Try.ntmps37
  go_upto_region 11 with (fail)
  generalize hw : World.alloc _ _ = w9
  have HA : Hid (w9.heap[w.heap.size]? = some (.cells #[.int .u64 v, .int .u64 m, .int .u64 lo, .int .u64 hi, .int .i64 sl, .int .i64 sh] 28)) := Lib.hid (by rw [← hw]; exact (by repeat (first | (with_reducible refine al_eq _ _ _ ?_; (simp only [size_alloc]; done)) | with_reducible refine al_keep ?_ _ | with_reducible refine dr_keep ?_ | with_reducible refine drN_keep ?_)))
  have HX : Hid (w9.heap[w.heap.size + 1]? = some (.cells #[.int .u64 xv, .int .u64 xm, .int .u64 xlo, .int .u64 xhi, .int .i64 xsl, .int .i64 xsh] 28)) := Lib.hid (by rw [← hw]; exact (by repeat (first | (with_reducible refine al_eq _ _ _ ?_; (simp only [size_alloc]; done)) | with_reducible refine al_keep ?_ _ | with_reducible refine dr_keep ?_ | with_reducible refine drN_keep ?_)))
  have HR : Hid (w9.heap[w.heap.size + 1 + 1]? = some (.cells #[.int .u64 0, .int .u64 0, .int .u64 0, .int .u64 0, .int .i64 0, .int .i64 0] 28)) := Lib.hid (by rw [← hw]; exact (by repeat (first | (with_reducible refine al_eq _ _ _ ?_; (simp only [size_alloc]; done)) | with_reducible refine al_keep ?_ _ | with_reducible refine dr_keep ?_ | with_reducible refine drN_keep ?_)))
  have HQ : Hid (w9.heap[w.heap.size + 1 + 1 + 1]? = some (.cells #[.int .u64 0, .int .u64 0, .int .u64 0, .int .u64 0, .int .i64 0, .int .i64 0] 28)) := Lib.hid (by rw [← hw]; exact (by repeat (first | (with_reducible refine al_eq _ _ _ ?_; (simp only [size_alloc]; done)) | with_reducible refine al_keep ?_ _ | with_reducible refine dr_keep ?_ | with_reducible refine drN_keep ?_)))
  have HB : Hid (But [] w w9) := Lib.hid (by rw [← hw]; exact (by repeat (first | with_reducible exact But.refl _ _ | with_reducible refine But.drew ?_ | with_reducible refine drN_but ?_ | with_reducible refine But.alloc ?_ _)))
  clear hw
  have hx := HA.out
  obtain ⟨cA0, cA1, cA2, cA3, cA4, cA5⟩ := c6_of hx
  have zA := lt_of hx
  clear hx
  have hx := HX.out
  obtain ⟨cX0, cX1, cX2, cX3, cX4, cX5⟩ := c6_of hx
  have zX := lt_of hx
  clear hx
  go_wp2_with fail
  refine (K1.out _).mono ?_
  rintro e w10 ⟨⟨⟨gv, gm⟩, ⟨gl, gh, gi, gj⟩⟩, ⟨⟨dv, dm⟩, ⟨dl, dh, di, dj⟩⟩, rfl, hc1, hb⟩
  have HC1 := Lib.hid hc1
  obtain ⟨gb, hgb⟩ : ∃ b, (pairO o1 o2).isSome = b := ⟨_, rfl⟩
  have HGB := Lib.hid hgb
  simp only [Sc.val]
  rw [hgb]
  have HR := Lib.hid (hb.heap HR.out (by simp))
  have HQ := Lib.hid (hb.heap HQ.out (by simp))
  have HB := Lib.hid (HB.out.trans hb (by simp))
  clear hb hc1 hgb HA HX
  clear zA cA0 cA1 cA2 cA3 cA4 cA5 zX cX0 cX1 cX2 cX3 cX4 cX5
  have hx := HR.out
  obtain ⟨cR0, cR1, cR2, cR3, cR4, cR5⟩ := c6_of hx
  obtain ⟨fR0, fR1, fR2, fR3, fR4, fR5⟩ := f6_of hx
  have zR := lt_of hx
  clear hx
  have hx := HQ.out
  obtain ⟨cQ0, cQ1, cQ2, cQ3, cQ4, cQ5⟩ := c6_of hx
  obtain ⟨fQ0, fQ1, fQ2, fQ3, fQ4, fQ5⟩ := f6_of hx
  have zQ := lt_of hx
  clear hx
  try simp only []
  all_goals (repeat (first | go_values | go_skip | go_guarded | go_step | go_upon))
  all_goals exact bodyPost_ret (v := .tuple #[.agg #[.int .u64 gv, .int .u64 gm, .int .u64 gl, .int .u64 gh, .int .i64 gi, .int .i64 gj], .agg #[.int .u64 dv, .int .u64 dm, .int .u64 dl, .int .u64 dh, .int .i64 di, .int .i64 dj], .bool gb]) (by simp [results, Try.results37, go_sem, cR0, cR1, cR2, cR3, cR4, cR5, cQ0, cQ1, cQ2, cQ3, cQ4, cQ5]) rfl (PairPost.mk ⟨⟨gv, gm⟩, ⟨gl, gh, gi, gj⟩⟩ ⟨⟨dv, dm⟩, ⟨dl, dh, di, dj⟩⟩ (by rw [HGB.out]; rfl) (HC1.out) (by
    repeat (first | with_reducible exact HB.out | with_reducible refine But.alloc ?_ _ | with_reducible refine But.drew ?_ | (with_reducible refine But.setCell ?_ (.inr ?_) _; rotate_left; (simp only []; omega)))))
set_option maxRecDepth 100000 in
set_option maxHeartbeats 4000000 in
theorem r21holds_192 (v m lo hi xv xm xlo xhi : Nat) (sl sh xsl xsh : Int) (w : World) (hr : Rg ⟨⟨v, m⟩, ⟨lo, hi, sl, sh⟩⟩) (hx : Rg ⟨⟨xv, xm⟩, ⟨xlo, xhi, xsl, xsh⟩⟩) (ia : sl ≤ sh) (ib : xsl ≤ xsh) : Calls Try.prog 37 #[.int .u8 192, .agg #[.int .u64 v, .int .u64 m, .int .u64 lo, .int .u64 hi, .int .i64 sl, .int .i64 sh], .agg #[.int .u64 xv, .int .u64 xm, .int .u64 xlo, .int .u64 xhi, .int .i64 xsl, .int .i64 xsh]] w (PairPost (holdT 192 ⟨⟨v, m⟩, ⟨lo, hi, sl, sh⟩⟩ ⟨⟨xv, xm⟩, ⟨xlo, xhi, xsl, xsh⟩⟩) w) := by
  have K1 := Lib.hid (fun w => r21under_false v m lo hi xv xm xlo xhi sl sh xsl xsh w hr hx (by have := hx.sl; simp only at this; omega) (by have := hr.sh; simp only at this; omega))
  obtain ⟨o1, ho1⟩ : ∃ o, o = lesT false ⟨⟨v, m⟩, ⟨lo, hi, sl, sh⟩⟩ ⟨⟨xv, xm⟩, ⟨xlo, xhi, xsl, xsh⟩⟩ := ⟨_, rfl⟩
  obtain ⟨o2, ho2⟩ : ∃ o, o = morT false ⟨⟨xv, xm⟩, ⟨xlo, xhi, xsl, xsh⟩⟩ ⟨⟨v, m⟩, ⟨lo, hi, sl, sh⟩⟩ := ⟨_, rfl⟩
  have HO : holdT 192 ⟨⟨v, m⟩, ⟨lo, hi, sl, sh⟩⟩ ⟨⟨xv, xm⟩, ⟨xlo, xhi, xsl, xsh⟩⟩ = pairO o1 o2 := by rw [ho1, ho2]; rfl
  rw [HO]
  rw [← ho1, ← ho2] at K1
  clear HO ho1 ho2 hr hx ia ib
  go_enter Try.func37, Try.ntmps37
  go_upto_region 18 with (fail)
  generalize hw : World.alloc _ _ = w9
  have HA : Hid (w9.heap[w.heap.size]? = some (.cells #[.int .u64 v, .int .u64 m, .int .u64 lo, .int .u64 hi, .int .i64 sl, .int .i64 sh] 28)) := Lib.hid (by rw [← hw]; exact (by repeat (first | (with_reducible refine al_eq _ _ _ ?_; (simp only [size_alloc]; done)) | with_reducible refine al_keep ?_ _ | with_reducible refine dr_keep ?_ | with_reducible refine drN_keep ?_)))
  have HX : Hid (w9.heap[w.heap.size + 1]? = some (.cells #[.int .u64 xv, .int .u64 xm, .int .u64 xlo, .int .u64 xhi, .int .i64 xsl, .int .i64 xsh] 28)) := Lib.hid (by rw [← hw]; exact (by repeat (first | (with_reducible refine al_eq _ _ _ ?_; (simp only [size_alloc]; done)) | with_reducible refine al_keep ?_ _ | with_reducible refine dr_keep ?_ | with_reducible refine drN_keep ?_)))
  have HR : Hid (w9.heap[w.heap.size + 1 + 1]? = some (.cells #[.int .u64 0, .int .u64 0, .int .u64 0, .int .u64 0, .int .i64 0, .int .i64 0] 28)) := Lib.hid (by rw [← hw]; exact (by repeat (first | (with_reducible refine al_eq _ _ _ ?_; (simp only [size_alloc]; done)) | with_reducible refine al_keep ?_ _ | with_reducible refine dr_keep ?_ | with_reducible refine drN_keep ?_)))
  have HQ : Hid (w9.heap[w.heap.size + 1 + 1 + 1]? = some (.cells #[.int .u64 0, .int .u64 0, .int .u64 0, .int .u64 0, .int .i64 0, .int .i64 0] 28)) := Lib.hid (by rw [← hw]; exact (by repeat (first | (with_reducible refine al_eq _ _ _ ?_; (simp only [size_alloc]; done)) | with_reducible refine al_keep ?_ _ | with_reducible refine dr_keep ?_ | with_reducible refine drN_keep ?_)))
  have HB : Hid (But [] w w9) := Lib.hid (by rw [← hw]; exact (by repeat (first | with_reducible exact But.refl _ _ | with_reducible refine But.drew ?_ | with_reducible refine drN_but ?_ | with_reducible refine But.alloc ?_ _)))
  clear hw
  have hx := HA.out
  obtain ⟨cA0, cA1, cA2, cA3, cA4, cA5⟩ := c6_of hx
  have zA := lt_of hx
  clear hx
  have hx := HX.out
  obtain ⟨cX0, cX1, cX2, cX3, cX4, cX5⟩ := c6_of hx
  have zX := lt_of hx
  clear hx
  go_wp2_with fail
  refine (K1.out _).mono ?_
  rintro e w10 ⟨⟨⟨gv, gm⟩, ⟨gl, gh, gi, gj⟩⟩, ⟨⟨dv, dm⟩, ⟨dl, dh, di, dj⟩⟩, rfl, hc1, hb⟩
  have HC1 := Lib.hid hc1
  obtain ⟨gb, hgb⟩ : ∃ b, (pairO o1 o2).isSome = b := ⟨_, rfl⟩
  have HGB := Lib.hid hgb
  simp only [Sc.val]
  rw [hgb]
  have HR := Lib.hid (hb.heap HR.out (by simp))
  have HQ := Lib.hid (hb.heap HQ.out (by simp))
  have HB := Lib.hid (HB.out.trans hb (by simp))
  clear hb hc1 hgb HA HX
  clear zA cA0 cA1 cA2 cA3 cA4 cA5 zX cX0 cX1 cX2 cX3 cX4 cX5
  have hx := HR.out
  obtain ⟨cR0, cR1, cR2, cR3, cR4, cR5⟩ := c6_of hx
  obtain ⟨fR0, fR1, fR2, fR3, fR4, fR5⟩ := f6_of hx
  have zR := lt_of hx
  clear hx
  have hx := HQ.out
  obtain ⟨cQ0, cQ1, cQ2, cQ3, cQ4, cQ5⟩ := c6_of hx
  obtain ⟨fQ0, fQ1, fQ2, fQ3, fQ4, fQ5⟩ := f6_of hx
  have zQ := lt_of hx
  clear hx
  try simp only []
  all_goals (repeat (first | go_values | go_skip | go_guarded | go_step | go_upon))
  all_goals exact bodyPost_ret (v := .tuple #[.agg #[.int .u64 gv, .int .u64 gm, .int .u64 gl, .int .u64 gh, .int .i64 gi, .int .i64 gj], .agg #[.int .u64 dv, .int .u64 dm, .int .u64 dl, .int .u64 dh, .int .i64 di, .int .i64 dj], .bool gb]) (by simp [results, Try.results37, go_sem, cR0, cR1, cR2, cR3, cR4, cR5, cQ0, cQ1, cQ2, cQ3, cQ4, cQ5]) rfl (PairPost.mk ⟨⟨gv, gm⟩, ⟨gl, gh, gi, gj⟩⟩ ⟨⟨dv, dm⟩, ⟨dl, dh, di, dj⟩⟩ (by rw [HGB.out]; rfl) (HC1.out) (by
    repeat (first | with_reducible exact HB.out | with_reducible refine But.alloc ?_ _ | with_reducible refine But.drew ?_ | (with_reducible refine But.setCell ?_ (.inr ?_) _; rotate_left; (simp only []; omega)))))
set_option maxRecDepth 100000 in
set_option maxHeartbeats 4000000 in
theorem r21holds_208 (v m lo hi xv xm xlo xhi : Nat) (sl sh xsl xsh : Int) (w : World) (hr : Rg ⟨⟨v, m⟩, ⟨lo, hi, sl, sh⟩⟩) (hx : Rg ⟨⟨xv, xm⟩, ⟨xlo, xhi, xsl, xsh⟩⟩) (ia : sl ≤ sh) (ib : xsl ≤ xsh) : Calls Try.prog 37 #[.int .u8 208, .agg #[.int .u64 v, .int .u64 m, .int .u64 lo, .int .u64 hi, .int .i64 sl, .int .i64 sh], .agg #[.int .u64 xv, .int .u64 xm, .int .u64 xlo, .int .u64 xhi, .int .i64 xsl, .int .i64 xsh]] w (PairPost (holdT 208 ⟨⟨v, m⟩, ⟨lo, hi, sl, sh⟩⟩ ⟨⟨xv, xm⟩, ⟨xlo, xhi, xsl, xsh⟩⟩) w) := by
  have K1 := Lib.hid (fun w => r21under_true v m lo hi xv xm xlo xhi sl sh xsl xsh w hr hx)
  obtain ⟨o1, ho1⟩ : ∃ o, o = lesT true ⟨⟨v, m⟩, ⟨lo, hi, sl, sh⟩⟩ ⟨⟨xv, xm⟩, ⟨xlo, xhi, xsl, xsh⟩⟩ := ⟨_, rfl⟩
  obtain ⟨o2, ho2⟩ : ∃ o, o = morT true ⟨⟨xv, xm⟩, ⟨xlo, xhi, xsl, xsh⟩⟩ ⟨⟨v, m⟩, ⟨lo, hi, sl, sh⟩⟩ := ⟨_, rfl⟩
  have HO : holdT 208 ⟨⟨v, m⟩, ⟨lo, hi, sl, sh⟩⟩ ⟨⟨xv, xm⟩, ⟨xlo, xhi, xsl, xsh⟩⟩ = pairO o1 o2 := by rw [ho1, ho2]; rfl
  rw [HO]
  rw [← ho1, ← ho2] at K1
  clear HO ho1 ho2 hr hx ia ib
  go_enter Try.func37, Try.ntmps37
  go_upto_region 18 with (fail)
  generalize hw : World.alloc _ _ = w9
  have HA : Hid (w9.heap[w.heap.size]? = some (.cells #[.int .u64 v, .int .u64 m, .int .u64 lo, .int .u64 hi, .int .i64 sl, .int .i64 sh] 28)) := Lib.hid (by rw [← hw]; exact (by repeat (first | (with_reducible refine al_eq _ _ _ ?_; (simp only [size_alloc]; done)) | with_reducible refine al_keep ?_ _ | with_reducible refine dr_keep ?_ | with_reducible refine drN_keep ?_)))
  have HX : Hid (w9.heap[w.heap.size + 1]? = some (.cells #[.int .u64 xv, .int .u64 xm, .int .u64 xlo, .int .u64 xhi, .int .i64 xsl, .int .i64 xsh] 28)) := Lib.hid (by rw [← hw]; exact (by repeat (first | (with_reducible refine al_eq _ _ _ ?_; (simp only [size_alloc]; done)) | with_reducible refine al_keep ?_ _ | with_reducible refine dr_keep ?_ | with_reducible refine drN_keep ?_)))
  have HR : Hid (w9.heap[w.heap.size + 1 + 1]? = some (.cells #[.int .u64 0, .int .u64 0, .int .u64 0, .int .u64 0, .int .i64 0, .int .i64 0] 28)) := Lib.hid (by rw [← hw]; exact (by repeat (first | (with_reducible refine al_eq _ _ _ ?_; (simp only [size_alloc]; done)) | with_reducible refine al_keep ?_ _ | with_reducible refine dr_keep ?_ | with_reducible refine drN_keep ?_)))
  have HQ : Hid (w9.heap[w.heap.size + 1 + 1 + 1]? = some (.cells #[.int .u64 0, .int .u64 0, .int .u64 0, .int .u64 0, .int .i64 0, .int .i64 0] 28)) := Lib.hid (by rw [← hw]; exact (by repeat (first | (with_reducible refine al_eq _ _ _ ?_; (simp only [size_alloc]; done)) | with_reducible refine al_keep ?_ _ | with_reducible refine dr_keep ?_ | with_reducible refine drN_keep ?_)))
  have HB : Hid (But [] w w9) := Lib.hid (by rw [← hw]; exact (by repeat (first | with_reducible exact But.refl _ _ | with_reducible refine But.drew ?_ | with_reducible refine drN_but ?_ | with_reducible refine But.alloc ?_ _)))
  clear hw
  have hx := HA.out
  obtain ⟨cA0, cA1, cA2, cA3, cA4, cA5⟩ := c6_of hx
  have zA := lt_of hx
  clear hx
  have hx := HX.out
  obtain ⟨cX0, cX1, cX2, cX3, cX4, cX5⟩ := c6_of hx
  have zX := lt_of hx
  clear hx
  go_wp2_with fail
  refine (K1.out _).mono ?_
  rintro e w10 ⟨⟨⟨gv, gm⟩, ⟨gl, gh, gi, gj⟩⟩, ⟨⟨dv, dm⟩, ⟨dl, dh, di, dj⟩⟩, rfl, hc1, hb⟩
  have HC1 := Lib.hid hc1
  obtain ⟨gb, hgb⟩ : ∃ b, (pairO o1 o2).isSome = b := ⟨_, rfl⟩
  have HGB := Lib.hid hgb
  simp only [Sc.val]
  rw [hgb]
  have HR := Lib.hid (hb.heap HR.out (by simp))
  have HQ := Lib.hid (hb.heap HQ.out (by simp))
  have HB := Lib.hid (HB.out.trans hb (by simp))
  clear hb hc1 hgb HA HX
  clear zA cA0 cA1 cA2 cA3 cA4 cA5 zX cX0 cX1 cX2 cX3 cX4 cX5
  have hx := HR.out
  obtain ⟨cR0, cR1, cR2, cR3, cR4, cR5⟩ := c6_of hx
  obtain ⟨fR0, fR1, fR2, fR3, fR4, fR5⟩ := f6_of hx
  have zR := lt_of hx
  clear hx
  have hx := HQ.out
  obtain ⟨cQ0, cQ1, cQ2, cQ3, cQ4, cQ5⟩ := c6_of hx
  obtain ⟨fQ0, fQ1, fQ2, fQ3, fQ4, fQ5⟩ := f6_of hx
  have zQ := lt_of hx
  clear hx
  try simp only []
  all_goals (repeat (first | go_values | go_skip | go_guarded | go_step | go_upon))
  all_goals exact bodyPost_ret (v := .tuple #[.agg #[.int .u64 gv, .int .u64 gm, .int .u64 gl, .int .u64 gh, .int .i64 gi, .int .i64 gj], .agg #[.int .u64 dv, .int .u64 dm, .int .u64 dl, .int .u64 dh, .int .i64 di, .int .i64 dj], .bool gb]) (by simp [results, Try.results37, go_sem, cR0, cR1, cR2, cR3, cR4, cR5, cQ0, cQ1, cQ2, cQ3, cQ4, cQ5]) rfl (PairPost.mk ⟨⟨gv, gm⟩, ⟨gl, gh, gi, gj⟩⟩ ⟨⟨dv, dm⟩, ⟨dl, dh, di, dj⟩⟩ (by rw [HGB.out]; rfl) (HC1.out) (by
    repeat (first | with_reducible exact HB.out | with_reducible refine But.alloc ?_ _ | with_reducible refine But.drew ?_ | (with_reducible refine But.setCell ?_ (.inr ?_) _; rotate_left; (simp only []; omega)))))
set_option maxRecDepth 100000 in
set_option maxHeartbeats 4000000 in
theorem r21holds_64 (v m lo hi xv xm xlo xhi : Nat) (sl sh xsl xsh : Int) (w : World) (hr : Rg ⟨⟨v, m⟩, ⟨lo, hi, sl, sh⟩⟩) (hx : Rg ⟨⟨xv, xm⟩, ⟨xlo, xhi, xsl, xsh⟩⟩) (ia : sl ≤ sh) (ib : xsl ≤ xsh) : Calls Try.prog 37 #[.int .u8 64, .agg #[.int .u64 v, .int .u64 m, .int .u64 lo, .int .u64 hi, .int .i64 sl, .int .i64 sh], .agg #[.int .u64 xv, .int .u64 xm, .int .u64 xlo, .int .u64 xhi, .int .i64 xsl, .int .i64 xsh]] w (PairPost (holdT 64 ⟨⟨v, m⟩, ⟨lo, hi, sl, sh⟩⟩ ⟨⟨xv, xm⟩, ⟨xlo, xhi, xsl, xsh⟩⟩) w) := by
  have K1 := Lib.hid (fun w => r21set v m lo hi xv xm xlo xhi sl sh xsl xsh w hr hx)
  obtain ⟨o1, ho1⟩ : ∃ o, o = someT ⟨⟨v, m⟩, ⟨lo, hi, sl, sh⟩⟩ ⟨⟨xv, xm⟩, ⟨xlo, xhi, xsl, xsh⟩⟩ := ⟨_, rfl⟩
  obtain ⟨o2, ho2⟩ : ∃ o, o = someT ⟨⟨xv, xm⟩, ⟨xlo, xhi, xsl, xsh⟩⟩ ⟨⟨v, m⟩, ⟨lo, hi, sl, sh⟩⟩ := ⟨_, rfl⟩
  have HO : holdT 64 ⟨⟨v, m⟩, ⟨lo, hi, sl, sh⟩⟩ ⟨⟨xv, xm⟩, ⟨xlo, xhi, xsl, xsh⟩⟩ = pairO o1 o2 := by rw [ho1, ho2]; rfl
  rw [HO]
  rw [← ho1, ← ho2] at K1
  clear HO ho1 ho2 hr hx ia ib
  go_enter Try.func37, Try.ntmps37
  go_upto_region 24 with (fail)
  generalize hw : World.alloc _ _ = w9
  have HA : Hid (w9.heap[w.heap.size]? = some (.cells #[.int .u64 v, .int .u64 m, .int .u64 lo, .int .u64 hi, .int .i64 sl, .int .i64 sh] 28)) := Lib.hid (by rw [← hw]; exact (by repeat (first | (with_reducible refine al_eq _ _ _ ?_; (simp only [size_alloc]; done)) | with_reducible refine al_keep ?_ _ | with_reducible refine dr_keep ?_ | with_reducible refine drN_keep ?_)))
  have HX : Hid (w9.heap[w.heap.size + 1]? = some (.cells #[.int .u64 xv, .int .u64 xm, .int .u64 xlo, .int .u64 xhi, .int .i64 xsl, .int .i64 xsh] 28)) := Lib.hid (by rw [← hw]; exact (by repeat (first | (with_reducible refine al_eq _ _ _ ?_; (simp only [size_alloc]; done)) | with_reducible refine al_keep ?_ _ | with_reducible refine dr_keep ?_ | with_reducible refine drN_keep ?_)))
  have HR : Hid (w9.heap[w.heap.size + 1 + 1]? = some (.cells #[.int .u64 0, .int .u64 0, .int .u64 0, .int .u64 0, .int .i64 0, .int .i64 0] 28)) := Lib.hid (by rw [← hw]; exact (by repeat (first | (with_reducible refine al_eq _ _ _ ?_; (simp only [size_alloc]; done)) | with_reducible refine al_keep ?_ _ | with_reducible refine dr_keep ?_ | with_reducible refine drN_keep ?_)))
  have HQ : Hid (w9.heap[w.heap.size + 1 + 1 + 1]? = some (.cells #[.int .u64 0, .int .u64 0, .int .u64 0, .int .u64 0, .int .i64 0, .int .i64 0] 28)) := Lib.hid (by rw [← hw]; exact (by repeat (first | (with_reducible refine al_eq _ _ _ ?_; (simp only [size_alloc]; done)) | with_reducible refine al_keep ?_ _ | with_reducible refine dr_keep ?_ | with_reducible refine drN_keep ?_)))
  have HB : Hid (But [] w w9) := Lib.hid (by rw [← hw]; exact (by repeat (first | with_reducible exact But.refl _ _ | with_reducible refine But.drew ?_ | with_reducible refine drN_but ?_ | with_reducible refine But.alloc ?_ _)))
  clear hw
  have hx := HA.out
  obtain ⟨cA0, cA1, cA2, cA3, cA4, cA5⟩ := c6_of hx
  have zA := lt_of hx
  clear hx
  have hx := HX.out
  obtain ⟨cX0, cX1, cX2, cX3, cX4, cX5⟩ := c6_of hx
  have zX := lt_of hx
  clear hx
  go_wp2_with fail
  refine (K1.out _).mono ?_
  rintro e w10 ⟨⟨⟨gv, gm⟩, ⟨gl, gh, gi, gj⟩⟩, ⟨⟨dv, dm⟩, ⟨dl, dh, di, dj⟩⟩, rfl, hc1, hb⟩
  have HC1 := Lib.hid hc1
  obtain ⟨gb, hgb⟩ : ∃ b, (pairO o1 o2).isSome = b := ⟨_, rfl⟩
  have HGB := Lib.hid hgb
  simp only [Sc.val]
  rw [hgb]
  have HR := Lib.hid (hb.heap HR.out (by simp))
  have HQ := Lib.hid (hb.heap HQ.out (by simp))
  have HB := Lib.hid (HB.out.trans hb (by simp))
  clear hb hc1 hgb HA HX
  clear zA cA0 cA1 cA2 cA3 cA4 cA5 zX cX0 cX1 cX2 cX3 cX4 cX5
  have hx := HR.out
  obtain ⟨cR0, cR1, cR2, cR3, cR4, cR5⟩ := c6_of hx
  obtain ⟨fR0, fR1, fR2, fR3, fR4, fR5⟩ := f6_of hx
  have zR := lt_of hx
  clear hx
  have hx := HQ.out
  obtain ⟨cQ0, cQ1, cQ2, cQ3, cQ4, cQ5⟩ := c6_of hx
  obtain ⟨fQ0, fQ1, fQ2, fQ3, fQ4, fQ5⟩ := f6_of hx
  have zQ := lt_of hx
  clear hx
  try simp only []
  all_goals (repeat (first | go_values | go_skip | go_guarded | go_step | go_upon))
  all_goals exact bodyPost_ret (v := .tuple #[.agg #[.int .u64 gv, .int .u64 gm, .int .u64 gl, .int .u64 gh, .int .i64 gi, .int .i64 gj], .agg #[.int .u64 dv, .int .u64 dm, .int .u64 dl, .int .u64 dh, .int .i64 di, .int .i64 dj], .bool gb]) (by simp [results, Try.results37, go_sem, cR0, cR1, cR2, cR3, cR4, cR5, cQ0, cQ1, cQ2, cQ3, cQ4, cQ5]) rfl (PairPost.mk ⟨⟨gv, gm⟩, ⟨gl, gh, gi, gj⟩⟩ ⟨⟨dv, dm⟩, ⟨dl, dh, di, dj⟩⟩ (by rw [HGB.out]; rfl) (HC1.out) (by
    repeat (first | with_reducible exact HB.out | with_reducible refine But.alloc ?_ _ | with_reducible refine But.drew ?_ | (with_reducible refine But.setCell ?_ (.inr ?_) _; rotate_left; (simp only []; omega)))))
set_option maxRecDepth 100000 in
set_option maxHeartbeats 4000000 in
theorem r21holds_32 (v m lo hi xv xm xlo xhi : Nat) (sl sh xsl xsh : Int) (w : World) (hr : Rg ⟨⟨v, m⟩, ⟨lo, hi, sl, sh⟩⟩) (hx : Rg ⟨⟨xv, xm⟩, ⟨xlo, xhi, xsl, xsh⟩⟩) (ia : sl ≤ sh) (ib : xsl ≤ xsh) : Calls Try.prog 37 #[.int .u8 32, .agg #[.int .u64 v, .int .u64 m, .int .u64 lo, .int .u64 hi, .int .i64 sl, .int .i64 sh], .agg #[.int .u64 xv, .int .u64 xm, .int .u64 xlo, .int .u64 xhi, .int .i64 xsl, .int .i64 xsh]] w (PairPost (holdT 32 ⟨⟨v, m⟩, ⟨lo, hi, sl, sh⟩⟩ ⟨⟨xv, xm⟩, ⟨xlo, xhi, xsl, xsh⟩⟩) w) := by
  have K1 := Lib.hid (fun w => r21less_false xv xm xlo xhi v m lo hi xsl xsh sl sh w hx hr)
  obtain ⟨o1, ho1⟩ : ∃ o, o = uppT false ⟨⟨v, m⟩, ⟨lo, hi, sl, sh⟩⟩ ⟨⟨xv, xm⟩, ⟨xlo, xhi, xsl, xsh⟩⟩ := ⟨_, rfl⟩
  obtain ⟨o2, ho2⟩ : ∃ o, o = lowT false ⟨⟨xv, xm⟩, ⟨xlo, xhi, xsl, xsh⟩⟩ ⟨⟨v, m⟩, ⟨lo, hi, sl, sh⟩⟩ := ⟨_, rfl⟩
  have HO : holdT 32 ⟨⟨v, m⟩, ⟨lo, hi, sl, sh⟩⟩ ⟨⟨xv, xm⟩, ⟨xlo, xhi, xsl, xsh⟩⟩ = pairO o1 o2 := by rw [ho1, ho2]; rfl
  rw [HO]
  rw [← ho1, ← ho2] at K1
  clear HO ho1 ho2 hr hx ia ib
  go_enter Try.func37, Try.ntmps37
  go_upto_region 14 with (fail)
  generalize hw : World.alloc _ _ = w9
  have HA : Hid (w9.heap[w.heap.size]? = some (.cells #[.int .u64 v, .int .u64 m, .int .u64 lo, .int .u64 hi, .int .i64 sl, .int .i64 sh] 28)) := Lib.hid (by rw [← hw]; exact (by repeat (first | (with_reducible refine al_eq _ _ _ ?_; (simp only [size_alloc]; done)) | with_reducible refine al_keep ?_ _ | with_reducible refine dr_keep ?_ | with_reducible refine drN_keep ?_)))
  have HX : Hid (w9.heap[w.heap.size + 1]? = some (.cells #[.int .u64 xv, .int .u64 xm, .int .u64 xlo, .int .u64 xhi, .int .i64 xsl, .int .i64 xsh] 28)) := Lib.hid (by rw [← hw]; exact (by repeat (first | (with_reducible refine al_eq _ _ _ ?_; (simp only [size_alloc]; done)) | with_reducible refine al_keep ?_ _ | with_reducible refine dr_keep ?_ | with_reducible refine drN_keep ?_)))
  have HR : Hid (w9.heap[w.heap.size + 1 + 1]? = some (.cells #[.int .u64 0, .int .u64 0, .int .u64 0, .int .u64 0, .int .i64 0, .int .i64 0] 28)) := Lib.hid (by rw [← hw]; exact (by repeat (first | (with_reducible refine al_eq _ _ _ ?_; (simp only [size_alloc]; done)) | with_reducible refine al_keep ?_ _ | with_reducible refine dr_keep ?_ | with_reducible refine drN_keep ?_)))
  have HQ : Hid (w9.heap[w.heap.size + 1 + 1 + 1]? = some (.cells #[.int .u64 0, .int .u64 0, .int .u64 0, .int .u64 0, .int .i64 0, .int .i64 0] 28)) := Lib.hid (by rw [← hw]; exact (by repeat (first | (with_reducible refine al_eq _ _ _ ?_; (simp only [size_alloc]; done)) | with_reducible refine al_keep ?_ _ | with_reducible refine dr_keep ?_ | with_reducible refine drN_keep ?_)))
  have HB : Hid (But [] w w9) := Lib.hid (by rw [← hw]; exact (by repeat (first | with_reducible exact But.refl _ _ | with_reducible refine But.drew ?_ | with_reducible refine drN_but ?_ | with_reducible refine But.alloc ?_ _)))
  clear hw
  have hx := HA.out
  obtain ⟨cA0, cA1, cA2, cA3, cA4, cA5⟩ := c6_of hx
  have zA := lt_of hx
  clear hx
  have hx := HX.out
  obtain ⟨cX0, cX1, cX2, cX3, cX4, cX5⟩ := c6_of hx
  have zX := lt_of hx
  clear hx
  go_wp2_with fail
  refine (K1.out _).mono ?_
  rintro e w10 ⟨⟨⟨gv, gm⟩, ⟨gl, gh, gi, gj⟩⟩, ⟨⟨dv, dm⟩, ⟨dl, dh, di, dj⟩⟩, rfl, hc1, hb⟩
  have HC1 := Lib.hid hc1
  obtain ⟨gb, hgb⟩ : ∃ b, (pairO o2 o1).isSome = b := ⟨_, rfl⟩
  have HGB := Lib.hid hgb
  simp only [Sc.val]
  rw [hgb]
  have HR := Lib.hid (hb.heap HR.out (by simp))
  have HQ := Lib.hid (hb.heap HQ.out (by simp))
  have HB := Lib.hid (HB.out.trans hb (by simp))
  clear hb hc1 hgb HA HX
  clear zA cA0 cA1 cA2 cA3 cA4 cA5 zX cX0 cX1 cX2 cX3 cX4 cX5
  have hz10 := lt_of HQ.out
  go_upto_region 15 with (fail)
  generalize hw : World.alloc (World.alloc w10 _) _ = w11
  have HM : Hid (w11.heap[w10.heap.size]? = some (.cells #[.int .u64 gv, .int .u64 gm, .int .u64 gl, .int .u64 gh, .int .i64 gi, .int .i64 gj] 28)) := Lib.hid (by rw [← hw]; exact al_keep (al_at _ _) _)
  have HN : Hid (w11.heap[w10.heap.size + 1]? = some (.cells #[.int .u64 dv, .int .u64 dm, .int .u64 dl, .int .u64 dh, .int .i64 di, .int .i64 dj] 28)) := Lib.hid (by rw [← hw]; exact al_eq _ _ _ (by simp only [size_alloc]))
  have HR := Lib.hid (show w11.heap[w.heap.size + 1 + 1]? = some (.cells #[.int .u64 0, .int .u64 0, .int .u64 0, .int .u64 0, .int .i64 0, .int .i64 0] 28) from by rw [← hw]; exact al_keep (al_keep HR.out _) _)
  have HQ := Lib.hid (show w11.heap[w.heap.size + 1 + 1 + 1]? = some (.cells #[.int .u64 0, .int .u64 0, .int .u64 0, .int .u64 0, .int .i64 0, .int .i64 0] 28) from by rw [← hw]; exact al_keep (al_keep HQ.out _) _)
  have HB := Lib.hid (show But [] w w11 from by rw [← hw]; exact (HB.out.alloc _).alloc _)
  clear hw
  have hx := HM.out
  obtain ⟨cM0, cM1, cM2, cM3, cM4, cM5⟩ := c6_of hx
  have zM := lt_of hx
  clear hx
  have hx := HN.out
  obtain ⟨cN0, cN1, cN2, cN3, cN4, cN5⟩ := c6_of hx
  have zN := lt_of hx
  clear hx
  have hx := HR.out
  obtain ⟨cR0, cR1, cR2, cR3, cR4, cR5⟩ := c6_of hx
  obtain ⟨fR0, fR1, fR2, fR3, fR4, fR5⟩ := f6_of hx
  have zR := lt_of hx
  clear hx
  have hx := HQ.out
  obtain ⟨cQ0, cQ1, cQ2, cQ3, cQ4, cQ5⟩ := c6_of hx
  obtain ⟨fQ0, fQ1, fQ2, fQ3, fQ4, fQ5⟩ := f6_of hx
  have zQ := lt_of hx
  clear hx
  go_region
  all_goals (repeat (first | go_values | go_skip | go_guarded | go_step | go_upon))
  all_goals exact bodyPost_ret (v := .tuple #[.agg #[.int .u64 dv, .int .u64 dm, .int .u64 dl, .int .u64 dh, .int .i64 di, .int .i64 dj], .agg #[.int .u64 gv, .int .u64 gm, .int .u64 gl, .int .u64 gh, .int .i64 gi, .int .i64 gj], .bool gb]) (by simp [results, Try.results37, go_sem, cR0, cR1, cR2, cR3, cR4, cR5, cQ0, cQ1, cQ2, cQ3, cQ4, cQ5]) rfl (PairPost.mk ⟨⟨dv, dm⟩, ⟨dl, dh, di, dj⟩⟩ ⟨⟨gv, gm⟩, ⟨gl, gh, gi, gj⟩⟩ (by rw [pairO_swap, Option.isSome_map, HGB.out]; rfl) (fun x hx => by rw [pairO_swap] at hx; obtain ⟨y, hy, rfl⟩ := Option.map_eq_some_iff.1 hx; rw [HC1.out y hy]) (by
    repeat (first | with_reducible exact HB.out | with_reducible refine But.alloc ?_ _ | with_reducible refine But.drew ?_ | (with_reducible refine But.setCell ?_ (.inr ?_) _; rotate_left; (simp only []; omega)))))
set_option maxRecDepth 100000 in
set_option maxHeartbeats 4000000 in
theorem r21holds_48 (v m lo hi xv xm xlo xhi : Nat) (sl sh xsl xsh : Int) (w : World) (hr : Rg ⟨⟨v, m⟩, ⟨lo, hi, sl, sh⟩⟩) (hx : Rg ⟨⟨xv, xm⟩, ⟨xlo, xhi, xsl, xsh⟩⟩) (ia : sl ≤ sh) (ib : xsl ≤ xsh) : Calls Try.prog 37 #[.int .u8 48, .agg #[.int .u64 v, .int .u64 m, .int .u64 lo, .int .u64 hi, .int .i64 sl, .int .i64 sh], .agg #[.int .u64 xv, .int .u64 xm, .int .u64 xlo, .int .u64 xhi, .int .i64 xsl, .int .i64 xsh]] w (PairPost (holdT 48 ⟨⟨v, m⟩, ⟨lo, hi, sl, sh⟩⟩ ⟨⟨xv, xm⟩, ⟨xlo, xhi, xsl, xsh⟩⟩) w) := by
  have K1 := Lib.hid (fun w => r21less_true xv xm xlo xhi v m lo hi xsl xsh sl sh w hx hr)
  obtain ⟨o1, ho1⟩ : ∃ o, o = uppT true ⟨⟨v, m⟩, ⟨lo, hi, sl, sh⟩⟩ ⟨⟨xv, xm⟩, ⟨xlo, xhi, xsl, xsh⟩⟩ := ⟨_, rfl⟩
  obtain ⟨o2, ho2⟩ : ∃ o, o = lowT true ⟨⟨xv, xm⟩, ⟨xlo, xhi, xsl, xsh⟩⟩ ⟨⟨v, m⟩, ⟨lo, hi, sl, sh⟩⟩ := ⟨_, rfl⟩
  have HO : holdT 48 ⟨⟨v, m⟩, ⟨lo, hi, sl, sh⟩⟩ ⟨⟨xv, xm⟩, ⟨xlo, xhi, xsl, xsh⟩⟩ = pairO o1 o2 := by rw [ho1, ho2]; rfl
  rw [HO]
  rw [← ho1, ← ho2] at K1
  clear HO ho1 ho2 hr hx ia ib
  go_enter Try.func37, Try.ntmps37
  go_upto_region 14 with (fail)
  generalize hw : World.alloc _ _ = w9
  have HA : Hid (w9.heap[w.heap.size]? = some (.cells #[.int .u64 v, .int .u64 m, .int .u64 lo, .int .u64 hi, .int .i64 sl, .int .i64 sh] 28)) := Lib.hid (by rw [← hw]; exact (by repeat (first | (with_reducible refine al_eq _ _ _ ?_; (simp only [size_alloc]; done)) | with_reducible refine al_keep ?_ _ | with_reducible refine dr_keep ?_ | with_reducible refine drN_keep ?_)))
  have HX : Hid (w9.heap[w.heap.size + 1]? = some (.cells #[.int .u64 xv, .int .u64 xm, .int .u64 xlo, .int .u64 xhi, .int .i64 xsl, .int .i64 xsh] 28)) := Lib.hid (by rw [← hw]; exact (by repeat (first | (with_reducible refine al_eq _ _ _ ?_; (simp only [size_alloc]; done)) | with_reducible refine al_keep ?_ _ | with_reducible refine dr_keep ?_ | with_reducible refine drN_keep ?_)))
  have HR : Hid (w9.heap[w.heap.size + 1 + 1]? = some (.cells #[.int .u64 0, .int .u64 0, .int .u64 0, .int .u64 0, .int .i64 0, .int .i64 0] 28)) := Lib.hid (by rw [← hw]; exact (by repeat (first | (with_reducible refine al_eq _ _ _ ?_; (simp only [size_alloc]; done)) | with_reducible refine al_keep ?_ _ | with_reducible refine dr_keep ?_ | with_reducible refine drN_keep ?_)))
  have HQ : Hid (w9.heap[w.heap.size + 1 + 1 + 1]? = some (.cells #[.int .u64 0, .int .u64 0, .int .u64 0, .int .u64 0, .int .i64 0, .int .i64 0] 28)) := Lib.hid (by rw [← hw]; exact (by repeat (first | (with_reducible refine al_eq _ _ _ ?_; (simp only [size_alloc]; done)) | with_reducible refine al_keep ?_ _ | with_reducible refine dr_keep ?_ | with_reducible refine drN_keep ?_)))
  have HB : Hid (But [] w w9) := Lib.hid (by rw [← hw]; exact (by repeat (first | with_reducible exact But.refl _ _ | with_reducible refine But.drew ?_ | with_reducible refine drN_but ?_ | with_reducible refine But.alloc ?_ _)))
  clear hw
  have hx := HA.out
  obtain ⟨cA0, cA1, cA2, cA3, cA4, cA5⟩ := c6_of hx
  have zA := lt_of hx
  clear hx
  have hx := HX.out
  obtain ⟨cX0, cX1, cX2, cX3, cX4, cX5⟩ := c6_of hx
  have zX := lt_of hx
  clear hx
  go_wp2_with fail
  refine (K1.out _).mono ?_
  rintro e w10 ⟨⟨⟨gv, gm⟩, ⟨gl, gh, gi, gj⟩⟩, ⟨⟨dv, dm⟩, ⟨dl, dh, di, dj⟩⟩, rfl, hc1, hb⟩
  have HC1 := Lib.hid hc1
  obtain ⟨gb, hgb⟩ : ∃ b, (pairO o2 o1).isSome = b := ⟨_, rfl⟩
  have HGB := Lib.hid hgb
  simp only [Sc.val]
  rw [hgb]
  have HR := Lib.hid (hb.heap HR.out (by simp))
  have HQ := Lib.hid (hb.heap HQ.out (by simp))
  have HB := Lib.hid (HB.out.trans hb (by simp))
  clear hb hc1 hgb HA HX
  clear zA cA0 cA1 cA2 cA3 cA4 cA5 zX cX0 cX1 cX2 cX3 cX4 cX5
  have hz10 := lt_of HQ.out
  go_upto_region 15 with (fail)
  generalize hw : World.alloc (World.alloc w10 _) _ = w11
  have HM : Hid (w11.heap[w10.heap.size]? = some (.cells #[.int .u64 gv, .int .u64 gm, .int .u64 gl, .int .u64 gh, .int .i64 gi, .int .i64 gj] 28)) := Lib.hid (by rw [← hw]; exact al_keep (al_at _ _) _)
  have HN : Hid (w11.heap[w10.heap.size + 1]? = some (.cells #[.int .u64 dv, .int .u64 dm, .int .u64 dl, .int .u64 dh, .int .i64 di, .int .i64 dj] 28)) := Lib.hid (by rw [← hw]; exact al_eq _ _ _ (by simp only [size_alloc]))
  have HR := Lib.hid (show w11.heap[w.heap.size + 1 + 1]? = some (.cells #[.int .u64 0, .int .u64 0, .int .u64 0, .int .u64 0, .int .i64 0, .int .i64 0] 28) from by rw [← hw]; exact al_keep (al_keep HR.out _) _)
  have HQ := Lib.hid (show w11.heap[w.heap.size + 1 + 1 + 1]? = some (.cells #[.int .u64 0, .int .u64 0, .int .u64 0, .int .u64 0, .int .i64 0, .int .i64 0] 28) from by rw [← hw]; exact al_keep (al_keep HQ.out _) _)
  have HB := Lib.hid (show But [] w w11 from by rw [← hw]; exact (HB.out.alloc _).alloc _)
  clear hw
  have hx := HM.out
  obtain ⟨cM0, cM1, cM2, cM3, cM4, cM5⟩ := c6_of hx
  have zM := lt_of hx
  clear hx
  have hx := HN.out
  obtain ⟨cN0, cN1, cN2, cN3, cN4, cN5⟩ := c6_of hx
  have zN := lt_of hx
  clear hx
  have hx := HR.out
  obtain ⟨cR0, cR1, cR2, cR3, cR4, cR5⟩ := c6_of hx
  obtain ⟨fR0, fR1, fR2, fR3, fR4, fR5⟩ := f6_of hx
  have zR := lt_of hx
  clear hx
  have hx := HQ.out
  obtain ⟨cQ0, cQ1, cQ2, cQ3, cQ4, cQ5⟩ := c6_of hx
  obtain ⟨fQ0, fQ1, fQ2, fQ3, fQ4, fQ5⟩ := f6_of hx
  have zQ := lt_of hx
  clear hx
  go_region
  all_goals (repeat (first | go_values | go_skip | go_guarded | go_step | go_upon))
  all_goals exact bodyPost_ret (v := .tuple #[.agg #[.int .u64 dv, .int .u64 dm, .int .u64 dl, .int .u64 dh, .int .i64 di, .int .i64 dj], .agg #[.int .u64 gv, .int .u64 gm, .int .u64 gl, .int .u64 gh, .int .i64 gi, .int .i64 gj], .bool gb]) (by simp [results, Try.results37, go_sem, cR0, cR1, cR2, cR3, cR4, cR5, cQ0, cQ1, cQ2, cQ3, cQ4, cQ5]) rfl (PairPost.mk ⟨⟨dv, dm⟩, ⟨dl, dh, di, dj⟩⟩ ⟨⟨gv, gm⟩, ⟨gl, gh, gi, gj⟩⟩ (by rw [pairO_swap, Option.isSome_map, HGB.out]; rfl) (fun x hx => by rw [pairO_swap] at hx; obtain ⟨y, hy, rfl⟩ := Option.map_eq_some_iff.1 hx; rw [HC1.out y hy]) (by
    repeat (first | with_reducible exact HB.out | with_reducible refine But.alloc ?_ _ | with_reducible refine But.drew ?_ | (with_reducible refine But.setCell ?_ (.inr ?_) _; rotate_left; (simp only []; omega)))))
set_option maxRecDepth 100000 in
set_option maxHeartbeats 4000000 in
theorem r21holds_96 (v m lo hi xv xm xlo xhi : Nat) (sl sh xsl xsh : Int) (w : World) (hr : Rg ⟨⟨v, m⟩, ⟨lo, hi, sl, sh⟩⟩) (hx : Rg ⟨⟨xv, xm⟩, ⟨xlo, xhi, xsl, xsh⟩⟩) (ia : sl ≤ sh) (ib : xsl ≤ xsh) : Calls Try.prog 37 #[.int .u8 96, .agg #[.int .u64 v, .int .u64 m, .int .u64 lo, .int .u64 hi, .int .i64 sl, .int .i64 sh], .agg #[.int .u64 xv, .int .u64 xm, .int .u64 xlo, .int .u64 xhi, .int .i64 xsl, .int .i64 xsh]] w (PairPost (holdT 96 ⟨⟨v, m⟩, ⟨lo, hi, sl, sh⟩⟩ ⟨⟨xv, xm⟩, ⟨xlo, xhi, xsl, xsh⟩⟩) w) := by
  have K1 := Lib.hid (fun w => r21under_false xv xm xlo xhi v m lo hi xsl xsh sl sh w hx hr (by have := hr.sl; simp only at this; omega) (by have := hx.sh; simp only at this; omega))
  obtain ⟨o1, ho1⟩ : ∃ o, o = morT false ⟨⟨v, m⟩, ⟨lo, hi, sl, sh⟩⟩ ⟨⟨xv, xm⟩, ⟨xlo, xhi, xsl, xsh⟩⟩ := ⟨_, rfl⟩
  obtain ⟨o2, ho2⟩ : ∃ o, o = lesT false ⟨⟨xv, xm⟩, ⟨xlo, xhi, xsl, xsh⟩⟩ ⟨⟨v, m⟩, ⟨lo, hi, sl, sh⟩⟩ := ⟨_, rfl⟩
  have HO : holdT 96 ⟨⟨v, m⟩, ⟨lo, hi, sl, sh⟩⟩ ⟨⟨xv, xm⟩, ⟨xlo, xhi, xsl, xsh⟩⟩ = pairO o1 o2 := by rw [ho1, ho2]; rfl
  rw [HO]
  rw [← ho1, ← ho2] at K1
  clear HO ho1 ho2 hr hx ia ib
  go_enter Try.func37, Try.ntmps37
  go_upto_region 21 with (fail)
  generalize hw : World.alloc _ _ = w9
  have HA : Hid (w9.heap[w.heap.size]? = some (.cells #[.int .u64 v, .int .u64 m, .int .u64 lo, .int .u64 hi, .int .i64 sl, .int .i64 sh] 28)) := Lib.hid (by rw [← hw]; exact (by repeat (first | (with_reducible refine al_eq _ _ _ ?_; (simp only [size_alloc]; done)) | with_reducible refine al_keep ?_ _ | with_reducible refine dr_keep ?_ | with_reducible refine drN_keep ?_)))
  have HX : Hid (w9.heap[w.heap.size + 1]? = some (.cells #[.int .u64 xv, .int .u64 xm, .int .u64 xlo, .int .u64 xhi, .int .i64 xsl, .int .i64 xsh] 28)) := Lib.hid (by rw [← hw]; exact (by repeat (first | (with_reducible refine al_eq _ _ _ ?_; (simp only [size_alloc]; done)) | with_reducible refine al_keep ?_ _ | with_reducible refine dr_keep ?_ | with_reducible refine drN_keep ?_)))
  have HR : Hid (w9.heap[w.heap.size + 1 + 1]? = some (.cells #[.int .u64 0, .int .u64 0, .int .u64 0, .int .u64 0, .int .i64 0, .int .i64 0] 28)) := Lib.hid (by rw [← hw]; exact (by repeat (first | (with_reducible refine al_eq _ _ _ ?_; (simp only [size_alloc]; done)) | with_reducible refine al_keep ?_ _ | with_reducible refine dr_keep ?_ | with_reducible refine drN_keep ?_)))
  have HQ : Hid (w9.heap[w.heap.size + 1 + 1 + 1]? = some (.cells #[.int .u64 0, .int .u64 0, .int .u64 0, .int .u64 0, .int .i64 0, .int .i64 0] 28)) := Lib.hid (by rw [← hw]; exact (by repeat (first | (with_reducible refine al_eq _ _ _ ?_; (simp only [size_alloc]; done)) | with_reducible refine al_keep ?_ _ | with_reducible refine dr_keep ?_ | with_reducible refine drN_keep ?_)))
  have HB : Hid (But [] w w9) := Lib.hid (by rw [← hw]; exact (by repeat (first | with_reducible exact But.refl _ _ | with_reducible refine But.drew ?_ | with_reducible refine drN_but ?_ | with_reducible refine But.alloc ?_ _)))
  clear hw
  have hx := HA.out
  obtain ⟨cA0, cA1, cA2, cA3, cA4, cA5⟩ := c6_of hx
  have zA := lt_of hx
  clear hx
  have hx := HX.out
  obtain ⟨cX0, cX1, cX2, cX3, cX4, cX5⟩ := c6_of hx
  have zX := lt_of hx
  clear hx
  go_wp2_with fail
  refine (K1.out _).mono ?_
  rintro e w10 ⟨⟨⟨gv, gm⟩, ⟨gl, gh, gi, gj⟩⟩, ⟨⟨dv, dm⟩, ⟨dl, dh, di, dj⟩⟩, rfl, hc1, hb⟩
  have HC1 := Lib.hid hc1
  obtain ⟨gb, hgb⟩ : ∃ b, (pairO o2 o1).isSome = b := ⟨_, rfl⟩
  have HGB := Lib.hid hgb
  simp only [Sc.val]
  rw [hgb]
  have HR := Lib.hid (hb.heap HR.out (by simp))
  have HQ := Lib.hid (hb.heap HQ.out (by simp))
  have HB := Lib.hid (HB.out.trans hb (by simp))
  clear hb hc1 hgb HA HX
  clear zA cA0 cA1 cA2 cA3 cA4 cA5 zX cX0 cX1 cX2 cX3 cX4 cX5
  have hz10 := lt_of HQ.out
  go_upto_region 22 with (fail)
  generalize hw : World.alloc (World.alloc w10 _) _ = w11
  have HM : Hid (w11.heap[w10.heap.size]? = some (.cells #[.int .u64 gv, .int .u64 gm, .int .u64 gl, .int .u64 gh, .int .i64 gi, .int .i64 gj] 28)) := Lib.hid (by rw [← hw]; exact al_keep (al_at _ _) _)
  have HN : Hid (w11.heap[w10.heap.size + 1]? = some (.cells #[.int .u64 dv, .int .u64 dm, .int .u64 dl, .int .u64 dh, .int .i64 di, .int .i64 dj] 28)) := Lib.hid (by rw [← hw]; exact al_eq _ _ _ (by simp only [size_alloc]))
  have HR := Lib.hid (show w11.heap[w.heap.size + 1 + 1]? = some (.cells #[.int .u64 0, .int .u64 0, .int .u64 0, .int .u64 0, .int .i64 0, .int .i64 0] 28) from by rw [← hw]; exact al_keep (al_keep HR.out _) _)
  have HQ := Lib.hid (show w11.heap[w.heap.size + 1 + 1 + 1]? = some (.cells #[.int .u64 0, .int .u64 0, .int .u64 0, .int .u64 0, .int .i64 0, .int .i64 0] 28) from by rw [← hw]; exact al_keep (al_keep HQ.out _) _)
  have HB := Lib.hid (show But [] w w11 from by rw [← hw]; exact (HB.out.alloc _).alloc _)
  clear hw
  have hx := HM.out
  obtain ⟨cM0, cM1, cM2, cM3, cM4, cM5⟩ := c6_of hx
  have zM := lt_of hx
  clear hx
  have hx := HN.out
  obtain ⟨cN0, cN1, cN2, cN3, cN4, cN5⟩ := c6_of hx
  have zN := lt_of hx
  clear hx
  have hx := HR.out
  obtain ⟨cR0, cR1, cR2, cR3, cR4, cR5⟩ := c6_of hx
  obtain ⟨fR0, fR1, fR2, fR3, fR4, fR5⟩ := f6_of hx
  have zR := lt_of hx
  clear hx
  have hx := HQ.out
  obtain ⟨cQ0, cQ1, cQ2, cQ3, cQ4, cQ5⟩ := c6_of hx
  obtain ⟨fQ0, fQ1, fQ2, fQ3, fQ4, fQ5⟩ := f6_of hx
  have zQ := lt_of hx
  clear hx
  go_region
  all_goals (repeat (first | go_values | go_skip | go_guarded | go_step | go_upon))
  all_goals exact bodyPost_ret (v := .tuple #[.agg #[.int .u64 dv, .int .u64 dm, .int .u64 dl, .int .u64 dh, .int .i64 di, .int .i64 dj], .agg #[.int .u64 gv, .int .u64 gm, .int .u64 gl, .int .u64 gh, .int .i64 gi, .int .i64 gj], .bool gb]) (by simp [results, Try.results37, go_sem, cR0, cR1, cR2, cR3, cR4, cR5, cQ0, cQ1, cQ2, cQ3, cQ4, cQ5]) rfl (PairPost.mk ⟨⟨dv, dm⟩, ⟨dl, dh, di, dj⟩⟩ ⟨⟨gv, gm⟩, ⟨gl, gh, gi, gj⟩⟩ (by rw [pairO_swap, Option.isSome_map, HGB.out]; rfl) (fun x hx => by rw [pairO_swap] at hx; obtain ⟨y, hy, rfl⟩ := Option.map_eq_some_iff.1 hx; rw [HC1.out y hy]) (by
    repeat (first | with_reducible exact HB.out | with_reducible refine But.alloc ?_ _ | with_reducible refine But.drew ?_ | (with_reducible refine But.setCell ?_ (.inr ?_) _; rotate_left; (simp only []; omega)))))
set_option maxRecDepth 100000 in
set_option maxHeartbeats 4000000 in
theorem r21holds_112 (v m lo hi xv xm xlo xhi : Nat) (sl sh xsl xsh : Int) (w : World) (hr : Rg ⟨⟨v, m⟩, ⟨lo, hi, sl, sh⟩⟩) (hx : Rg ⟨⟨xv, xm⟩, ⟨xlo, xhi, xsl, xsh⟩⟩) (ia : sl ≤ sh) (ib : xsl ≤ xsh) : Calls Try.prog 37 #[.int .u8 112, .agg #[.int .u64 v, .int .u64 m, .int .u64 lo, .int .u64 hi, .int .i64 sl, .int .i64 sh], .agg #[.int .u64 xv, .int .u64 xm, .int .u64 xlo, .int .u64 xhi, .int .i64 xsl, .int .i64 xsh]] w (PairPost (holdT 112 ⟨⟨v, m⟩, ⟨lo, hi, sl, sh⟩⟩ ⟨⟨xv, xm⟩, ⟨xlo, xhi, xsl, xsh⟩⟩) w) := by
  have K1 := Lib.hid (fun w => r21under_true xv xm xlo xhi v m lo hi xsl xsh sl sh w hx hr)
  obtain ⟨o1, ho1⟩ : ∃ o, o = morT true ⟨⟨v, m⟩, ⟨lo, hi, sl, sh⟩⟩ ⟨⟨xv, xm⟩, ⟨xlo, xhi, xsl, xsh⟩⟩ := ⟨_, rfl⟩
  obtain ⟨o2, ho2⟩ : ∃ o, o = lesT true ⟨⟨xv, xm⟩, ⟨xlo, xhi, xsl, xsh⟩⟩ ⟨⟨v, m⟩, ⟨lo, hi, sl, sh⟩⟩ := ⟨_, rfl⟩
  have HO : holdT 112 ⟨⟨v, m⟩, ⟨lo, hi, sl, sh⟩⟩ ⟨⟨xv, xm⟩, ⟨xlo, xhi, xsl, xsh⟩⟩ = pairO o1 o2 := by rw [ho1, ho2]; rfl
  rw [HO]
  rw [← ho1, ← ho2] at K1
  clear HO ho1 ho2 hr hx ia ib
  go_enter Try.func37, Try.ntmps37
  go_upto_region 21 with (fail)
  generalize hw : World.alloc _ _ = w9
  have HA : Hid (w9.heap[w.heap.size]? = some (.cells #[.int .u64 v, .int .u64 m, .int .u64 lo, .int .u64 hi, .int .i64 sl, .int .i64 sh] 28)) := Lib.hid (by rw [← hw]; exact (by repeat (first | (with_reducible refine al_eq _ _ _ ?_; (simp only [size_alloc]; done)) | with_reducible refine al_keep ?_ _ | with_reducible refine dr_keep ?_ | with_reducible refine drN_keep ?_)))
  have HX : Hid (w9.heap[w.heap.size + 1]? = some (.cells #[.int .u64 xv, .int .u64 xm, .int .u64 xlo, .int .u64 xhi, .int .i64 xsl, .int .i64 xsh] 28)) := Lib.hid (by rw [← hw]; exact (by repeat (first | (with_reducible refine al_eq _ _ _ ?_; (simp only [size_alloc]; done)) | with_reducible refine al_keep ?_ _ | with_reducible refine dr_keep ?_ | with_reducible refine drN_keep ?_)))
  have HR : Hid (w9.heap[w.heap.size + 1 + 1]? = some (.cells #[.int .u64 0, .int .u64 0, .int .u64 0, .int .u64 0, .int .i64 0, .int .i64 0] 28)) := Lib.hid (by rw [← hw]; exact (by repeat (first | (with_reducible refine al_eq _ _ _ ?_; (simp only [size_alloc]; done)) | with_reducible refine al_keep ?_ _ | with_reducible refine dr_keep ?_ | with_reducible refine drN_keep ?_)))
  have HQ : Hid (w9.heap[w.heap.size + 1 + 1 + 1]? = some (.cells #[.int .u64 0, .int .u64 0, .int .u64 0, .int .u64 0, .int .i64 0, .int .i64 0] 28)) := Lib.hid (by rw [← hw]; exact (by repeat (first | (with_reducible refine al_eq _ _ _ ?_; (simp only [size_alloc]; done)) | with_reducible refine al_keep ?_ _ | with_reducible refine dr_keep ?_ | with_reducible refine drN_keep ?_)))
  have HB : Hid (But [] w w9) := Lib.hid (by rw [← hw]; exact (by repeat (first | with_reducible exact But.refl _ _ | with_reducible refine But.drew ?_ | with_reducible refine drN_but ?_ | with_reducible refine But.alloc ?_ _)))
  clear hw
  have hx := HA.out
  obtain ⟨cA0, cA1, cA2, cA3, cA4, cA5⟩ := c6_of hx
  have zA := lt_of hx
  clear hx
  have hx := HX.out
  obtain ⟨cX0, cX1, cX2, cX3, cX4, cX5⟩ := c6_of hx
  have zX := lt_of hx
  clear hx
  go_wp2_with fail
  refine (K1.out _).mono ?_
  rintro e w10 ⟨⟨⟨gv, gm⟩, ⟨gl, gh, gi, gj⟩⟩, ⟨⟨dv, dm⟩, ⟨dl, dh, di, dj⟩⟩, rfl, hc1, hb⟩
  have HC1 := Lib.hid hc1
  obtain ⟨gb, hgb⟩ : ∃ b, (pairO o2 o1).isSome = b := ⟨_, rfl⟩
  have HGB := Lib.hid hgb
  simp only [Sc.val]
  rw [hgb]
  have HR := Lib.hid (hb.heap HR.out (by simp))
  have HQ := Lib.hid (hb.heap HQ.out (by simp))
  have HB := Lib.hid (HB.out.trans hb (by simp))
  clear hb hc1 hgb HA HX
  clear zA cA0 cA1 cA2 cA3 cA4 cA5 zX cX0 cX1 cX2 cX3 cX4 cX5
  have hz10 := lt_of HQ.out
  go_upto_region 22 with (fail)
  generalize hw : World.alloc (World.alloc w10 _) _ = w11
  have HM : Hid (w11.heap[w10.heap.size]? = some (.cells #[.int .u64 gv, .int .u64 gm, .int .u64 gl, .int .u64 gh, .int .i64 gi, .int .i64 gj] 28)) := Lib.hid (by rw [← hw]; exact al_keep (al_at _ _) _)
  have HN : Hid (w11.heap[w10.heap.size + 1]? = some (.cells #[.int .u64 dv, .int .u64 dm, .int .u64 dl, .int .u64 dh, .int .i64 di, .int .i64 dj] 28)) := Lib.hid (by rw [← hw]; exact al_eq _ _ _ (by simp only [size_alloc]))
  have HR := Lib.hid (show w11.heap[w.heap.size + 1 + 1]? = some (.cells #[.int .u64 0, .int .u64 0, .int .u64 0, .int .u64 0, .int .i64 0, .int .i64 0] 28) from by rw [← hw]; exact al_keep (al_keep HR.out _) _)
  have HQ := Lib.hid (show w11.heap[w.heap.size + 1 + 1 + 1]? = some (.cells #[.int .u64 0, .int .u64 0, .int .u64 0, .int .u64 0, .int .i64 0, .int .i64 0] 28) from by rw [← hw]; exact al_keep (al_keep HQ.out _) _)
  have HB := Lib.hid (show But [] w w11 from by rw [← hw]; exact (HB.out.alloc _).alloc _)
  clear hw
  have hx := HM.out
  obtain ⟨cM0, cM1, cM2, cM3, cM4, cM5⟩ := c6_of hx
  have zM := lt_of hx
  clear hx
  have hx := HN.out
  obtain ⟨cN0, cN1, cN2, cN3, cN4, cN5⟩ := c6_of hx
  have zN := lt_of hx
  clear hx
  have hx := HR.out
  obtain ⟨cR0, cR1, cR2, cR3, cR4, cR5⟩ := c6_of hx
  obtain ⟨fR0, fR1, fR2, fR3, fR4, fR5⟩ := f6_of hx
  have zR := lt_of hx
  clear hx
  have hx := HQ.out
  obtain ⟨cQ0, cQ1, cQ2, cQ3, cQ4, cQ5⟩ := c6_of hx
  obtain ⟨fQ0, fQ1, fQ2, fQ3, fQ4, fQ5⟩ := f6_of hx
  have zQ := lt_of hx
  clear hx
  go_region
  all_goals (repeat (first | go_values | go_skip | go_guarded | go_step | go_upon))
  all_goals exact bodyPost_ret (v := .tuple #[.agg #[.int .u64 dv, .int .u64 dm, .int .u64 dl, .int .u64 dh, .int .i64 di, .int .i64 dj], .agg #[.int .u64 gv, .int .u64 gm, .int .u64 gl, .int .u64 gh, .int .i64 gi, .int .i64 gj], .bool gb]) (by simp [results, Try.results37, go_sem, cR0, cR1, cR2, cR3, cR4, cR5, cQ0, cQ1, cQ2, cQ3, cQ4, cQ5]) rfl (PairPost.mk ⟨⟨dv, dm⟩, ⟨dl, dh, di, dj⟩⟩ ⟨⟨gv, gm⟩, ⟨gl, gh, gi, gj⟩⟩ (by rw [pairO_swap, Option.isSome_map, HGB.out]; rfl) (fun x hx => by rw [pairO_swap] at hx; obtain ⟨y, hy, rfl⟩ := Option.map_eq_some_iff.1 hx; rw [HC1.out y hy]) (by
    repeat (first | with_reducible exact HB.out | with_reducible refine But.alloc ?_ _ | with_reducible refine But.drew ?_ | (with_reducible refine But.setCell ?_ (.inr ?_) _; rotate_left; (simp only []; omega)))))
end Go.Proofs.Ytmbmmcippglfoaa.M
