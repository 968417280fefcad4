/-
  tells; RefineTells.
-/
import Derived.Test.YtmbmmcippglfoaaRfI
import Derived.Test.YtmbmmcippglfoaaBrL
import Derived.Test.YtmbmmcippglfoaaAwT
import Derived.Test.YtmbmmcippglfoaaScIn
namespace Go.Proofs.Ytmbmmcippglfoaa.M
open Go.RowKit Go.Shelf
set_option linter.unusedVariables false
set_option linter.unusedSectionVars false
set_option linter.unusedSimpArgs false

set_option maxRecDepth 100000 in
set_option maxHeartbeats 4000000 in
theorem tells_c (op : Nat) (wide taken : Bool) (v m lo hi xv xm xlo xhi : Nat) (sl sh xsl xsh : Int) (w : World) (hop : op < 256) (hr : Rg ⟨⟨v, m⟩, ⟨lo, hi, sl, sh⟩⟩) (hx : Rg ⟨⟨xv, xm⟩, ⟨xlo, xhi, xsl, xsh⟩⟩) : Calls Try.prog 7 #[.int .u8 (op : Int), .bool wide, .agg #[.int .u64 v, .int .u64 m, .int .u64 lo, .int .u64 hi, .int .i64 sl, .int .i64 sh], .agg #[.int .u64 xv, .int .u64 xm, .int .u64 xlo, .int .u64 xhi, .int .i64 xsl, .int .i64 xsh], .bool taken] w fun e w' => e = .returned (.bool true) ∧ But [] w w' := by
  obtain ⟨T, hT⟩ : ∃ T, T = branchT op wide ⟨⟨v, m⟩, ⟨lo, hi, sl, sh⟩⟩ ⟨⟨xv, xm⟩, ⟨xlo, xhi, xsl, xsh⟩⟩ taken := ⟨_, rfl⟩
  obtain ⟨⟨⟨cv, cm⟩, ⟨cl, ch, ci, cj⟩⟩, hc⟩ : ∃ c, (brC T).1 = c := ⟨_, rfl⟩
  obtain ⟨⟨⟨dv, dm⟩, ⟨dl, dh, di, dj⟩⟩, hd⟩ : ∃ c, (brC T).2 = c := ⟨_, rfl⟩
  obtain ⟨cb, hcb⟩ : ∃ c, T.isSome = c := ⟨_, rfl⟩
  have K1 : Hid (∀ w, Calls Try.prog 12 #[.int .u8 (op : Int), .bool wide, .agg #[.int .u64 v, .int .u64 m, .int .u64 lo, .int .u64 hi, .int .i64 sl, .int .i64 sh], .agg #[.int .u64 xv, .int .u64 xm, .int .u64 xlo, .int .u64 xhi, .int .i64 xsl, .int .i64 xsh], .bool taken] w fun e w' => e = .returned (.tuple #[.agg #[.int .u64 cv, .int .u64 cm, .int .u64 cl, .int .u64 ch, .int .i64 ci, .int .i64 cj], .agg #[.int .u64 dv, .int .u64 dm, .int .u64 dl, .int .u64 dh, .int .i64 di, .int .i64 dj], .bool cb]) ∧ But [] w w') := Lib.hid (fun w => by
    have h := branch_c op wide taken ⟨⟨v, m⟩, ⟨lo, hi, sl, sh⟩⟩ ⟨⟨xv, xm⟩, ⟨xlo, xhi, xsl, xsh⟩⟩ w hop hr hx
    unfold BrPost at h
    rw [← hT, hc, hd, hcb] at h
    exact h)
  have K2 : Hid (∀ w, Calls Try.prog 18 #[.int .u8 (op : Int), .bool wide, .agg #[.int .u64 v, .int .u64 m, .int .u64 lo, .int .u64 hi, .int .i64 sl, .int .i64 sh], .agg #[.int .u64 xv, .int .u64 xm, .int .u64 xlo, .int .u64 xhi, .int .i64 xsl, .int .i64 xsh], .bool taken] w fun e w' => e = .returned (.tuple #[.agg #[.int .u64 cv, .int .u64 cm, .int .u64 cl, .int .u64 ch, .int .i64 ci, .int .i64 cj], .agg #[.int .u64 dv, .int .u64 dm, .int .u64 dl, .int .u64 dh, .int .i64 di, .int .i64 dj], .bool cb]) ∧ But [] w w') := Lib.hid (fun w => by
    have h := r21branch op wide taken ⟨⟨v, m⟩, ⟨lo, hi, sl, sh⟩⟩ ⟨⟨xv, xm⟩, ⟨xlo, xhi, xsl, xsh⟩⟩ w hop hr hx
    unfold BrPost at h
    rw [← hT, hc, hd, hcb] at h
    exact h)
  clear hT hc hd hcb hr hx hop
  go_enter Try.func7, Try.ntmps7
  go_upto_region 1 with (fail)
  generalize hw : World.alloc _ _ = w1
  have HA : Hid (w1.heap[w.heap.size]? = some (.cells #[.int .u64 v, .int .u64 m, .int .u64 lo, .int .u64 hi, .int .i64 sl, .int .i64 sh] 28)) := Lib.hid (by rw [← hw]; exact (by repeat (first | (with_reducible refine al_eq _ _ _ ?_; (simp only [size_alloc]; done)) | with_reducible refine al_keep ?_ _ | with_reducible refine dr_keep ?_ | with_reducible refine drN_keep ?_)))
  have HX : Hid (w1.heap[w.heap.size + 1]? = some (.cells #[.int .u64 xv, .int .u64 xm, .int .u64 xlo, .int .u64 xhi, .int .i64 xsl, .int .i64 xsh] 28)) := Lib.hid (by rw [← hw]; exact (by repeat (first | (with_reducible refine al_eq _ _ _ ?_; (simp only [size_alloc]; done)) | with_reducible refine al_keep ?_ _ | with_reducible refine dr_keep ?_ | with_reducible refine drN_keep ?_)))
  have HB : Hid (But [] w w1) := Lib.hid (by rw [← hw]; exact (by repeat (first | with_reducible exact But.refl _ _ | with_reducible refine But.drew ?_ | with_reducible refine drN_but ?_ | with_reducible refine But.alloc ?_ _)))
  clear hw
  have hx := HA.out
  obtain ⟨cA0, cA1, cA2, cA3, cA4, cA5⟩ := c6_of hx
  have zA := lt_of hx
  clear hx
  have hx := HX.out
  obtain ⟨cX0, cX1, cX2, cX3, cX4, cX5⟩ := c6_of hx
  have zX := lt_of hx
  clear hx
  go_wp2_with fail
  refine (K1.out _).mono ?_
  rintro e w2 ⟨rfl, hb⟩
  have HA := Lib.hid (hb.heap HA.out (by simp))
  have HX := Lib.hid (hb.heap HX.out (by simp))
  have HB := Lib.hid (HB.out.trans hb (by simp))
  clear hb
  clear zA cA0 cA1 cA2 cA3 cA4 cA5 zX cX0 cX1 cX2 cX3 cX4 cX5
  go_upto_region 2 with (fail)
  generalize hw : World.alloc (World.alloc w2 _) _ = w3
  have HC : Hid (w3.heap[w2.heap.size]? = some (.cells #[.int .u64 cv, .int .u64 cm, .int .u64 cl, .int .u64 ch, .int .i64 ci, .int .i64 cj] 28)) := Lib.hid (by rw [← hw]; exact al_keep (al_at _ _) _)
  have HD : Hid (w3.heap[w2.heap.size + 1]? = some (.cells #[.int .u64 dv, .int .u64 dm, .int .u64 dl, .int .u64 dh, .int .i64 di, .int .i64 dj] 28)) := Lib.hid (by rw [← hw]; exact al_eq _ _ _ (by simp only [size_alloc]))
  have HA := Lib.hid (show w3.heap[w.heap.size]? = some (.cells #[.int .u64 v, .int .u64 m, .int .u64 lo, .int .u64 hi, .int .i64 sl, .int .i64 sh] 28) from by rw [← hw]; exact al_keep (al_keep HA.out _) _)
  have HX := Lib.hid (show w3.heap[w.heap.size + 1]? = some (.cells #[.int .u64 xv, .int .u64 xm, .int .u64 xlo, .int .u64 xhi, .int .i64 xsl, .int .i64 xsh] 28) from by rw [← hw]; exact al_keep (al_keep HX.out _) _)
  have HB := Lib.hid (show But [] w w3 from by rw [← hw]; exact (HB.out.alloc _).alloc _)
  clear hw
  have hx := HA.out
  obtain ⟨cA0, cA1, cA2, cA3, cA4, cA5⟩ := c6_of hx
  have zA := lt_of hx
  clear hx
  have hx := HX.out
  obtain ⟨cX0, cX1, cX2, cX3, cX4, cX5⟩ := c6_of hx
  have zX := lt_of hx
  clear hx
  go_wp2_with fail
  refine (K2.out _).mono ?_
  rintro e w4 ⟨rfl, hb⟩
  have HC := Lib.hid (hb.heap HC.out (by simp))
  have HD := Lib.hid (hb.heap HD.out (by simp))
  have HB := Lib.hid (HB.out.trans hb (by simp))
  clear hb HA HX
  clear zA cA0 cA1 cA2 cA3 cA4 cA5 zX cX0 cX1 cX2 cX3 cX4 cX5
  go_upto_region 3 with (fail)
  generalize hw : World.alloc (World.alloc w4 _) _ = w5
  have HE : Hid (w5.heap[w4.heap.size]? = some (.cells #[.int .u64 cv, .int .u64 cm, .int .u64 cl, .int .u64 ch, .int .i64 ci, .int .i64 cj] 28)) := Lib.hid (by rw [← hw]; exact al_keep (al_at _ _) _)
  have HG : Hid (w5.heap[w4.heap.size + 1]? = some (.cells #[.int .u64 dv, .int .u64 dm, .int .u64 dl, .int .u64 dh, .int .i64 di, .int .i64 dj] 28)) := Lib.hid (by rw [← hw]; exact al_eq _ _ _ (by simp only [size_alloc]))
  have HC := Lib.hid (show w5.heap[w2.heap.size]? = some (.cells #[.int .u64 cv, .int .u64 cm, .int .u64 cl, .int .u64 ch, .int .i64 ci, .int .i64 cj] 28) from by rw [← hw]; exact al_keep (al_keep HC.out _) _)
  have HD := Lib.hid (show w5.heap[w2.heap.size + 1]? = some (.cells #[.int .u64 dv, .int .u64 dm, .int .u64 dl, .int .u64 dh, .int .i64 di, .int .i64 dj] 28) from by rw [← hw]; exact al_keep (al_keep HD.out _) _)
  have HB := Lib.hid (show But [] w w5 from by rw [← hw]; exact (HB.out.alloc _).alloc _)
  clear hw
  have hx := HC.out
  obtain ⟨cC0, cC1, cC2, cC3, cC4, cC5⟩ := c6_of hx
  have zC := lt_of hx
  clear hx
  have hx := HD.out
  obtain ⟨cD0, cD1, cD2, cD3, cD4, cD5⟩ := c6_of hx
  have zD := lt_of hx
  clear hx
  have hx := HE.out
  obtain ⟨cE0, cE1, cE2, cE3, cE4, cE5⟩ := c6_of hx
  have zE := lt_of hx
  clear hx
  have hx := HG.out
  obtain ⟨cG0, cG1, cG2, cG3, cG4, cG5⟩ := c6_of hx
  have zG := lt_of hx
  clear hx
  go_wp2_with fail
  go_ret
  exact ⟨rfl, HB.out⟩
set_option maxRecDepth 100000 in
set_option maxHeartbeats 4000000 in
theorem refTells_w (w : World) (op : Nat) (wide taken : Bool) (v m lo hi xv xm xlo xhi : Nat) (sl sh xsl xsh : Int) (hop : op < 256) (hr : Rg ⟨⟨v, m⟩, ⟨lo, hi, sl, sh⟩⟩) (hx : Rg ⟨⟨xv, xm⟩, ⟨xlo, xhi, xsl, xsh⟩⟩) : Calls Try.prog 3 #[.int .u8 (op : Int), .bool wide, .agg #[.int .u64 v, .int .u64 m, .int .u64 lo, .int .u64 hi, .int .i64 sl, .int .i64 sh], .agg #[.int .u64 xv, .int .u64 xm, .int .u64 xlo, .int .u64 xhi, .int .i64 xsl, .int .i64 xsh], .bool taken] w fun e w' => e = .returned (.bool true) ∧ But [] w w' := by
  have K := Lib.hid (fun w => tells_c op wide taken v m lo hi xv xm xlo xhi sl sh xsl xsh w hop hr hx)
  clear hop hr hx
  go_enter Try.func3, Try.ntmps3
  go_wp2_with fail
  refine (K.out _).mono ?_
  rintro e w1 ⟨rfl, hb⟩
  have HB := Lib.hid (show But [] w w1 from ((by repeat (first | with_reducible exact But.refl _ _ | with_reducible refine But.drew ?_ | with_reducible refine drN_but ?_ | with_reducible refine But.alloc ?_ _)) : But [] w _).trans hb (by simp))
  clear hb
  go_wp2_with fail
  refine (awake_c _).mono ?_
  rintro e w2 ⟨rfl, hb⟩
  have HB := Lib.hid (HB.out.trans hb (by simp))
  clear hb
  go_wp2_with fail
  go_ret
  exact ⟨rfl, HB.out⟩
theorem refTells_walk (w : World) (op : Int) (wide : Bool) (a b : Sc) (taken : Bool) (hop : (Lit.int .u8 op).wf = true) (ha : Rg a) (hb : Rg b) : Calls Try.prog 3 #[.int .u8 op, .bool wide, a.val, b.val, .bool taken] w fun e w' => e = .returned (.bool true) ∧ Below w.heap.size w w' := by
  obtain ⟨n, rfl, hn⟩ := wf_u8n hop
  exact (refTells_w w n wide taken _ _ _ _ _ _ _ _ _ _ _ _ hn ha hb).mono fun _ _ ⟨he, hb⟩ => ⟨he, hb.below (Nat.le_refl _) (by simp)⟩
end Go.Proofs.Ytmbmmcippglfoaa.M
