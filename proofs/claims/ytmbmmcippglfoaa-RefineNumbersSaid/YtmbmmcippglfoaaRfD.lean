/-
  The reference: hatchwayref19.Of, Right, One; hatchwayref18.Meet; hatchwayref19.Meet; hatchwayref21.of.
-/
import Derived.Test.YtmbmmcippglfoaaRfC
namespace Go.Proofs.Ytmbmmcippglfoaa.M
open Go.RowKit Go.Shelf
set_option linter.unusedVariables false
set_option linter.unusedSectionVars false
set_option linter.unusedSimpArgs false

theorem r19tog_v (v m lo hi gv gm gl gh : Nat) (sl sh gi gj : Int) (gb : Bool) (hr : Rg ⟨⟨v, m⟩, ⟨lo, hi, sl, sh⟩⟩) (hg : (ofT ⟨⟨v, m⟩, ⟨lo, hi, sl, sh⟩⟩).getD zeroSc = ⟨⟨gv, gm⟩, ⟨gl, gh, gi, gj⟩⟩) (hb : (ofT ⟨⟨v, m⟩, ⟨lo, hi, sl, sh⟩⟩).isSome = gb) (w : World) : Calls Try.prog 23 #[.agg #[.int .u64 v, .int .u64 m], .agg #[.int .u64 lo, .int .u64 hi, .int .i64 sl, .int .i64 sh]] w fun e w' => e = .returned (.tuple #[.agg #[.int .u64 gv, .int .u64 gm, .int .u64 gl, .int .u64 gh, .int .i64 gi, .int .i64 gj], .bool gb]) ∧ But [] w w' := by
  have h := r19tog v m lo hi sl sh w hr
  rw [hg, hb] at h
  exact h
set_option maxRecDepth 100000 in
set_option maxHeartbeats 4000000 in
theorem r19Of0 (v m lo hi : Nat) (sl sh : Int) (w : World) (hr : Rg ⟨⟨v, m⟩, ⟨lo, hi, sl, sh⟩⟩) : Calls Try.prog 10 #[.agg #[.int .u64 v, .int .u64 m], .agg #[.int .u64 lo, .int .u64 hi, .int .i64 sl, .int .i64 sh]] w fun e w' => e = .returned (.tuple #[((ofT ⟨⟨v, m⟩, ⟨lo, hi, sl, sh⟩⟩).getD zeroSc).val, .bool (ofT ⟨⟨v, m⟩, ⟨lo, hi, sl, sh⟩⟩).isSome]) ∧ But [] w w' := by
  obtain ⟨⟨⟨gv, gm⟩, ⟨gl, gh, gi, gj⟩⟩, hg⟩ : ∃ g : Sc, (ofT ⟨⟨v, m⟩, ⟨lo, hi, sl, sh⟩⟩).getD zeroSc = g := ⟨_, rfl⟩
  obtain ⟨gb, hgb⟩ : ∃ b, (ofT ⟨⟨v, m⟩, ⟨lo, hi, sl, sh⟩⟩).isSome = b := ⟨_, rfl⟩
  have G0 := Lib.hid (fun w => r19tog_v v m lo hi gv gm gl gh sl sh gi gj gb hr hg hgb w)
  have HG := Lib.hid hg
  have HGB := Lib.hid hgb
  clear hr hg hgb
  go_enter Try.func10, Try.ntmps10
  go_wp2_with fail
  refine (G0.out _).mono ?_
  rintro e w8 ⟨rfl, hb8⟩
  have hR : w8.heap[w.heap.size + 1 + 1]? = some (.cells #[.int .u64 0, .int .u64 0, .int .u64 0, .int .u64 0, .int .i64 0, .int .i64 0] 28) := hb8.heap (by repeat (first | (with_reducible refine al_eq _ _ _ ?_; (simp only [size_alloc]; done)) | with_reducible refine al_keep ?_ _ | with_reducible refine dr_keep ?_)) (by simp)
  obtain ⟨cR0, cR1, cR2, cR3, cR4, cR5⟩ := c6_of hR
  obtain ⟨fR0, fR1, fR2, fR3, fR4, fR5⟩ := f6_of hR
  have zR := lt_of hR
  have HB : Hid (But [] w w8) := Lib.hid ((by repeat (first | with_reducible exact But.refl _ _ | with_reducible refine But.drew ?_ | with_reducible refine But.alloc ?_ _) : But [] w _).trans hb8 (by simp))
  have HR := Lib.hid hR
  clear hR hb8
  go_wp2_with fail
  exact bodyPost_ret (v := .tuple #[.agg #[.int .u64 gv, .int .u64 gm, .int .u64 gl, .int .u64 gh, .int .i64 gi, .int .i64 gj], .bool gb]) (by simp [results, Try.results10, go_sem, cR0, cR1, cR2, cR3, cR4, cR5]) rfl ⟨by rw [HG.out, HGB.out]; rfl, by
    repeat (first | with_reducible exact HB.out | with_reducible refine But.alloc ?_ _ | (with_reducible refine But.setCell ?_ (.inr ?_) _; rotate_left; (simp only []; omega)))⟩
theorem r19Of_v (v m lo hi gv gm gl gh : Nat) (sl sh gi gj : Int) (gb : Bool) (hr : Rg ⟨⟨v, m⟩, ⟨lo, hi, sl, sh⟩⟩) (hg : (ofT ⟨⟨v, m⟩, ⟨lo, hi, sl, sh⟩⟩).getD zeroSc = ⟨⟨gv, gm⟩, ⟨gl, gh, gi, gj⟩⟩) (hb : (ofT ⟨⟨v, m⟩, ⟨lo, hi, sl, sh⟩⟩).isSome = gb) (w : World) : Calls Try.prog 10 #[.agg #[.int .u64 v, .int .u64 m], .agg #[.int .u64 lo, .int .u64 hi, .int .i64 sl, .int .i64 sh]] w fun e w' => e = .returned (.tuple #[.agg #[.int .u64 gv, .int .u64 gm, .int .u64 gl, .int .u64 gh, .int .i64 gi, .int .i64 gj], .bool gb]) ∧ But [] w w' := by
  have h := r19Of0 v m lo hi sl sh w hr
  rw [hg, hb] at h
  exact h
set_option maxRecDepth 100000 in
set_option maxHeartbeats 4000000 in
theorem r19Right0 (v m lo hi : Nat) (sl sh : Int) (w : World) (hr : Rg ⟨⟨v, m⟩, ⟨lo, hi, sl, sh⟩⟩) : Calls Try.prog 35 #[.agg #[.int .u64 v, .int .u64 m, .int .u64 lo, .int .u64 hi, .int .i64 sl, .int .i64 sh]] w fun e w' => e = .returned (.bool (rightB ⟨⟨v, m⟩, ⟨lo, hi, sl, sh⟩⟩)) ∧ But [] w w' := by
  have HO := Lib.hid (fun w => r19tog v m lo hi sl sh w hr)
  clear hr
  cases hg : ofT ⟨⟨v, m⟩, ⟨lo, hi, sl, sh⟩⟩ with
  | none =>
    have HE : Hid (rightB ⟨⟨v, m⟩, ⟨lo, hi, sl, sh⟩⟩ = false) := Lib.hid (by simp [rightB, hg])
    rw [hg] at HO
    clear hg
    go_enter Try.func35, Try.ntmps35
    go_wp2_with fail
    refine (HO.out _).mono ?_
    rintro e w5 ⟨rfl, hb5⟩
    have hB := bx hb5
    have HB := Lib.hid hb5
    clear hb5 hB
    simp only [Option.isSome, Option.getD, zeroSc, Sc.val]
    go_wp2_with fail
    go_ret
    exact ⟨(by rw [HE.out]; first | done | rfl), (((But.refl [] w).alloc _).trans HB.out (by simp)).alloc _⟩
  | some g =>
    obtain ⟨⟨gv, gm⟩, ⟨gl, gh, gi, gj⟩⟩ := g
    rw [hg] at HO
    have HE : Hid (rightB ⟨⟨v, m⟩, ⟨lo, hi, sl, sh⟩⟩ = decide ((⟨⟨gv, gm⟩, ⟨gl, gh, gi, gj⟩⟩ : Sc) = ⟨⟨v, m⟩, ⟨lo, hi, sl, sh⟩⟩)) := Lib.hid (by simp [rightB, hg])
    clear hg
    go_enter Try.func35, Try.ntmps35
    go_wp2_with fail
    refine (HO.out _).mono ?_
    rintro e w5 ⟨rfl, hb5⟩
    have hB := bx hb5
    obtain ⟨b0, b1, b2, b3, b4, b5⟩ := c6_of hB
    have hz := lt_of hB
    have HB := Lib.hid hb5
    clear hb5 hB
    simp only [Option.isSome, Option.getD, Sc.val]
    go_wp2_with fail
    all_goals go_ret
    all_goals refine ⟨?_, (((But.refl [] w).alloc _).trans HB.out (by simp)).alloc _⟩
    all_goals first
      | exact congrArg (fun b => Ending.returned (Value.bool b)) (show true = _ from by rw [HE.out]; symm; rw [decide_eq_true_eq]; simp only [Sc.mk.injEq, Tn.mk.injEq, Sp.mk.injEq]; omega)
      | exact congrArg (fun b => Ending.returned (Value.bool b)) (show false = _ from by rw [HE.out]; symm; rw [decide_eq_false_iff_not]; simp only [Sc.mk.injEq, Tn.mk.injEq, Sp.mk.injEq]; omega)
set_option maxRecDepth 100000 in
set_option maxHeartbeats 4000000 in
theorem r19One0 (v m lo hi : Nat) (sl sh : Int) (w : World) (hr : Rg ⟨⟨v, m⟩, ⟨lo, hi, sl, sh⟩⟩) : Calls Try.prog 108 #[.agg #[.int .u64 v, .int .u64 m, .int .u64 lo, .int .u64 hi, .int .i64 sl, .int .i64 sh]] w fun e w' => e = .returned (.tuple #[.int .u64 ((oneT ⟨⟨v, m⟩, ⟨lo, hi, sl, sh⟩⟩).getD 0), .bool (oneT ⟨⟨v, m⟩, ⟨lo, hi, sl, sh⟩⟩).isSome]) ∧ But [] w w' := by
  have G0 := Lib.hid (fun w => r19Right0 v m lo hi sl sh w hr)
  clear hr
  have G1 : Hid True := Lib.hid trivial
  cases e0 : rightB ⟨⟨v, m⟩, ⟨lo, hi, sl, sh⟩⟩ with
  | false =>
    rw [e0] at G0
    have HE : Hid (oneT ⟨⟨v, m⟩, ⟨lo, hi, sl, sh⟩⟩ = none) := Lib.hid (by simp [oneT, e0])
    clear e0
    go_enter Try.func108, Try.ntmps108
    go_wp2_with fail
    refine (G0.out _).mono ?_
    rintro e w8 ⟨rfl, hb8⟩
    have hA : w8.heap[w.heap.size]? = some (.cells #[.int .u64 v, .int .u64 m, .int .u64 lo, .int .u64 hi, .int .i64 sl, .int .i64 sh] 28) := hb8.heap (by repeat (first | (with_reducible refine al_eq _ _ _ ?_; (simp only [size_alloc]; done)) | with_reducible refine al_keep ?_ _ | with_reducible refine dr_keep ?_)) (by simp)
    obtain ⟨cA0, cA1, cA2, cA3, cA4, cA5⟩ := c6_of hA
    have zA := lt_of hA
    have HB : Hid (But [] w w8) := Lib.hid ((by repeat (first | with_reducible exact But.refl _ _ | with_reducible refine But.drew ?_ | with_reducible refine But.alloc ?_ _) : But [] w _).trans hb8 (by simp))
    have HA := Lib.hid hA
    clear hA hb8
    go_wp2_with fail
    go_ret2
    exact ⟨(by rw [HE.out]; first | done | rfl), HB.out⟩
  | true =>
    rw [e0] at G0
    cases e1 : decide (lo = hi) with
    | false =>
      have HE : Hid (oneT ⟨⟨v, m⟩, ⟨lo, hi, sl, sh⟩⟩ = none) := Lib.hid (by have := of_decide_eq_false e1; simp [oneT, e0, this])
      have hn : ((lo : Int) != (hi : Int)) = true := by have := of_decide_eq_false e1; simp; omega
      clear e0 e1
      go_enter Try.func108, Try.ntmps108
      go_wp2_with fail
      refine (G0.out _).mono ?_
      rintro e w8 ⟨rfl, hb8⟩
      have hA : w8.heap[w.heap.size]? = some (.cells #[.int .u64 v, .int .u64 m, .int .u64 lo, .int .u64 hi, .int .i64 sl, .int .i64 sh] 28) := hb8.heap (by repeat (first | (with_reducible refine al_eq _ _ _ ?_; (simp only [size_alloc]; done)) | with_reducible refine al_keep ?_ _ | with_reducible refine dr_keep ?_)) (by simp)
      obtain ⟨cA0, cA1, cA2, cA3, cA4, cA5⟩ := c6_of hA
      have zA := lt_of hA
      have HB : Hid (But [] w w8) := Lib.hid ((by repeat (first | with_reducible exact But.refl _ _ | with_reducible refine But.drew ?_ | with_reducible refine But.alloc ?_ _) : But [] w _).trans hb8 (by simp))
      have HA := Lib.hid hA
      clear hA hb8
      go_wp2_with fail
      go_ret2
      exact ⟨(by rw [HE.out]; first | done | rfl), HB.out⟩
    | true =>
      have HE : Hid (oneT ⟨⟨v, m⟩, ⟨lo, hi, sl, sh⟩⟩ = some lo) := Lib.hid (by have h := of_decide_eq_true e1; subst h; simp [oneT, e0])
      have hn : ((lo : Int) != (hi : Int)) = false := by have := of_decide_eq_true e1; simp; omega
      clear e0 e1
      go_enter Try.func108, Try.ntmps108
      go_wp2_with fail
      refine (G0.out _).mono ?_
      rintro e w8 ⟨rfl, hb8⟩
      have hA : w8.heap[w.heap.size]? = some (.cells #[.int .u64 v, .int .u64 m, .int .u64 lo, .int .u64 hi, .int .i64 sl, .int .i64 sh] 28) := hb8.heap (by repeat (first | (with_reducible refine al_eq _ _ _ ?_; (simp only [size_alloc]; done)) | with_reducible refine al_keep ?_ _ | with_reducible refine dr_keep ?_)) (by simp)
      obtain ⟨cA0, cA1, cA2, cA3, cA4, cA5⟩ := c6_of hA
      have zA := lt_of hA
      have HB : Hid (But [] w w8) := Lib.hid ((by repeat (first | with_reducible exact But.refl _ _ | with_reducible refine But.drew ?_ | with_reducible refine But.alloc ?_ _) : But [] w _).trans hb8 (by simp))
      have HA := Lib.hid hA
      clear hA hb8
      go_wp2_with fail
      go_ret2
      exact ⟨(by rw [HE.out]; first | done | rfl), HB.out⟩
set_option maxRecDepth 100000 in
set_option maxHeartbeats 4000000 in
theorem r18Meet (lo hi xlo xhi : Nat) (sl sh xsl xsh : Int) (w : World) : Calls Try.prog 107 #[.agg #[.int .u64 lo, .int .u64 hi, .int .i64 sl, .int .i64 sh], .agg #[.int .u64 xlo, .int .u64 xhi, .int .i64 xsl, .int .i64 xsh]] w fun e w' => e = .returned (.tuple #[(spMeetV ⟨lo, hi, sl, sh⟩ ⟨xlo, xhi, xsl, xsh⟩).val, .bool (spMeetB ⟨lo, hi, sl, sh⟩ ⟨xlo, xhi, xsl, xsh⟩)]) ∧ But [] w w' := by
  obtain ⟨ml, hml⟩ : ∃ x, max lo xlo = x := ⟨_, rfl⟩
  obtain ⟨mh, hmh⟩ : ∃ x, min hi xhi = x := ⟨_, rfl⟩
  obtain ⟨ms, hms⟩ : ∃ x, max sl xsl = x := ⟨_, rfl⟩
  obtain ⟨mt, hmt⟩ : ∃ x, min sh xsh = x := ⟨_, rfl⟩
  have HSP : Hid (spMeet ⟨lo, hi, sl, sh⟩ ⟨xlo, xhi, xsl, xsh⟩ = ⟨ml, mh, ms, mt⟩) := Lib.hid (by simp only [spMeet, hml, hmh, hms, hmt])
  have k1 : max (lo : Int) (xlo : Int) = (ml : Int) := by rw [← hml]; first | done | omega
  have k2 : min (hi : Int) (xhi : Int) = (mh : Int) := by rw [← hmh]; first | done | omega
  clear hml hmh
  have G0 := Lib.hid (fun w => r18Right lo hi sl sh w)
  have G1 := Lib.hid (fun w => r18Right xlo xhi xsl xsh w)
  have G2 := Lib.hid (fun w => r18Right ml mh ms mt w)
  cases e0 : spR ⟨lo, hi, sl, sh⟩ with
  | false =>
    rw [e0] at G0
    have HE : Hid (spMeetB ⟨lo, hi, sl, sh⟩ ⟨xlo, xhi, xsl, xsh⟩ = false) := Lib.hid (by unfold spMeetB; rw [HSP.out]; simp [e0])
    clear e0
    go_enter Try.func107, Try.ntmps107
    go_wp2_with fail
    refine (G0.out _).mono ?_
    rintro e w20 ⟨rfl, hb20⟩
    have hA : w20.heap[w.heap.size]? = some (.cells #[.int .u64 lo, .int .u64 hi, .int .i64 sl, .int .i64 sh] 26) := hb20.heap (by repeat (first | (with_reducible refine al_eq _ _ _ ?_; (simp only [size_alloc]; done)) | with_reducible refine al_keep ?_ _ | with_reducible refine dr_keep ?_)) (by simp)
    have hX : w20.heap[w.heap.size + 1]? = some (.cells #[.int .u64 xlo, .int .u64 xhi, .int .i64 xsl, .int .i64 xsh] 26) := hb20.heap (by repeat (first | (with_reducible refine al_eq _ _ _ ?_; (simp only [size_alloc]; done)) | with_reducible refine al_keep ?_ _ | with_reducible refine dr_keep ?_)) (by simp)
    have hR : w20.heap[w.heap.size + 1 + 1]? = some (.cells #[.int .u64 0, .int .u64 0, .int .i64 0, .int .i64 0] 26) := hb20.heap (by repeat (first | (with_reducible refine al_eq _ _ _ ?_; (simp only [size_alloc]; done)) | with_reducible refine al_keep ?_ _ | with_reducible refine dr_keep ?_)) (by simp)
    have hM : w20.heap[w.heap.size + 1 + 1 + 1]? = some (.cells #[.int .u64 ml, .int .u64 mh, .int .i64 ms, .int .i64 mt] 26) := hb20.heap (by repeat (first | (with_reducible refine al_eq _ _ _ ?_; (simp only [size_alloc]; done)) | with_reducible refine al_keep ?_ _ | with_reducible refine dr_keep ?_)) (by simp)
    obtain ⟨cA0, cA1, cA2, cA3⟩ := c4_of hA
    have zA := lt_of hA
    obtain ⟨cX0, cX1, cX2, cX3⟩ := c4_of hX
    have zX := lt_of hX
    obtain ⟨cR0, cR1, cR2, cR3⟩ := c4_of hR
    obtain ⟨fR0, fR1, fR2, fR3⟩ := f4_of hR
    have zR := lt_of hR
    obtain ⟨cM0, cM1, cM2, cM3⟩ := c4_of hM
    have zM := lt_of hM
    have HB : Hid (But [] w w20) := Lib.hid ((by repeat (first | with_reducible exact But.refl _ _ | with_reducible refine But.drew ?_ | with_reducible refine But.alloc ?_ _) : But [] w _).trans hb20 (by simp))
    have HA := Lib.hid hA
    have HX := Lib.hid hX
    have HR := Lib.hid hR
    have HM := Lib.hid hM
    clear hA hX hR hM hb20
    go_wp2_with fail
    exact bodyPost_ret (v := .tuple #[.agg #[.int .u64 0, .int .u64 0, .int .i64 0, .int .i64 0], .bool false]) (by simp [results, Try.results107, go_sem, cR0, cR1, cR2, cR3]) rfl ⟨by unfold spMeetV; rw [HE.out]; rfl, by
    repeat (first | with_reducible exact HB.out | with_reducible refine But.alloc ?_ _ | (with_reducible refine But.setCell ?_ (.inr ?_) _; rotate_left; (simp only []; omega)))⟩
  | true =>
    rw [e0] at G0
    cases e1 : spR ⟨xlo, xhi, xsl, xsh⟩ with
    | false =>
      rw [e1] at G1
      have HE : Hid (spMeetB ⟨lo, hi, sl, sh⟩ ⟨xlo, xhi, xsl, xsh⟩ = false) := Lib.hid (by unfold spMeetB; rw [HSP.out]; simp [e1])
      clear e0 e1
      go_enter Try.func107, Try.ntmps107
      go_wp2_with fail
      refine (G0.out _).mono ?_
      rintro e w20 ⟨rfl, hb20⟩
      have hA : w20.heap[w.heap.size]? = some (.cells #[.int .u64 lo, .int .u64 hi, .int .i64 sl, .int .i64 sh] 26) := hb20.heap (by repeat (first | (with_reducible refine al_eq _ _ _ ?_; (simp only [size_alloc]; done)) | with_reducible refine al_keep ?_ _ | with_reducible refine dr_keep ?_)) (by simp)
      have hX : w20.heap[w.heap.size + 1]? = some (.cells #[.int .u64 xlo, .int .u64 xhi, .int .i64 xsl, .int .i64 xsh] 26) := hb20.heap (by repeat (first | (with_reducible refine al_eq _ _ _ ?_; (simp only [size_alloc]; done)) | with_reducible refine al_keep ?_ _ | with_reducible refine dr_keep ?_)) (by simp)
      have hR : w20.heap[w.heap.size + 1 + 1]? = some (.cells #[.int .u64 0, .int .u64 0, .int .i64 0, .int .i64 0] 26) := hb20.heap (by repeat (first | (with_reducible refine al_eq _ _ _ ?_; (simp only [size_alloc]; done)) | with_reducible refine al_keep ?_ _ | with_reducible refine dr_keep ?_)) (by simp)
      have hM : w20.heap[w.heap.size + 1 + 1 + 1]? = some (.cells #[.int .u64 ml, .int .u64 mh, .int .i64 ms, .int .i64 mt] 26) := hb20.heap (by repeat (first | (with_reducible refine al_eq _ _ _ ?_; (simp only [size_alloc]; done)) | with_reducible refine al_keep ?_ _ | with_reducible refine dr_keep ?_)) (by simp)
      obtain ⟨cA0, cA1, cA2, cA3⟩ := c4_of hA
      have zA := lt_of hA
      obtain ⟨cX0, cX1, cX2, cX3⟩ := c4_of hX
      have zX := lt_of hX
      obtain ⟨cR0, cR1, cR2, cR3⟩ := c4_of hR
      obtain ⟨fR0, fR1, fR2, fR3⟩ := f4_of hR
      have zR := lt_of hR
      obtain ⟨cM0, cM1, cM2, cM3⟩ := c4_of hM
      have zM := lt_of hM
      have HB : Hid (But [] w w20) := Lib.hid ((by repeat (first | with_reducible exact But.refl _ _ | with_reducible refine But.drew ?_ | with_reducible refine But.alloc ?_ _) : But [] w _).trans hb20 (by simp))
      have HA := Lib.hid hA
      have HX := Lib.hid hX
      have HR := Lib.hid hR
      have HM := Lib.hid hM
      clear hA hX hR hM hb20
      go_wp2_with fail
      refine (G1.out _).mono ?_
      rintro e w21 ⟨rfl, hb21⟩
      have hA : w21.heap[w.heap.size]? = some (.cells #[.int .u64 lo, .int .u64 hi, .int .i64 sl, .int .i64 sh] 26) := hb21.heap (HA.out) (by simp)
      have hX : w21.heap[w.heap.size + 1]? = some (.cells #[.int .u64 xlo, .int .u64 xhi, .int .i64 xsl, .int .i64 xsh] 26) := hb21.heap (HX.out) (by simp)
      have hR : w21.heap[w.heap.size + 1 + 1]? = some (.cells #[.int .u64 0, .int .u64 0, .int .i64 0, .int .i64 0] 26) := hb21.heap (HR.out) (by simp)
      have hM : w21.heap[w.heap.size + 1 + 1 + 1]? = some (.cells #[.int .u64 ml, .int .u64 mh, .int .i64 ms, .int .i64 mt] 26) := hb21.heap (HM.out) (by simp)
      clear zA zX zR zM
      clear cA0 cA1 cA2 cA3 cX0 cX1 cX2 cX3 cR0 cR1 cR2 cR3 cM0 cM1 cM2 cM3
      clear fR0 fR1 fR2 fR3
      obtain ⟨cA0, cA1, cA2, cA3⟩ := c4_of hA
      have zA := lt_of hA
      obtain ⟨cX0, cX1, cX2, cX3⟩ := c4_of hX
      have zX := lt_of hX
      obtain ⟨cR0, cR1, cR2, cR3⟩ := c4_of hR
      obtain ⟨fR0, fR1, fR2, fR3⟩ := f4_of hR
      have zR := lt_of hR
      obtain ⟨cM0, cM1, cM2, cM3⟩ := c4_of hM
      have zM := lt_of hM
      have HB : Hid (But [] w w21) := Lib.hid ((HB.out).trans hb21 (by simp))
      have HA := Lib.hid hA
      have HX := Lib.hid hX
      have HR := Lib.hid hR
      have HM := Lib.hid hM
      clear hA hX hR hM hb21
      go_wp2_with fail
      exact bodyPost_ret (v := .tuple #[.agg #[.int .u64 0, .int .u64 0, .int .i64 0, .int .i64 0], .bool false]) (by simp [results, Try.results107, go_sem, cR0, cR1, cR2, cR3]) rfl ⟨by unfold spMeetV; rw [HE.out]; rfl, by
    repeat (first | with_reducible exact HB.out | with_reducible refine But.alloc ?_ _ | (with_reducible refine But.setCell ?_ (.inr ?_) _; rotate_left; (simp only []; omega)))⟩
    | true =>
      rw [e1] at G1
      cases e2 : spR ⟨ml, mh, ms, mt⟩ with
      | false =>
        rw [e2] at G2
        have HE : Hid (spMeetB ⟨lo, hi, sl, sh⟩ ⟨xlo, xhi, xsl, xsh⟩ = false) := Lib.hid (by unfold spMeetB; rw [HSP.out]; simp [e2])
        clear e0 e1 e2
        go_enter Try.func107, Try.ntmps107
        go_wp2_with fail
        refine (G0.out _).mono ?_
        rintro e w20 ⟨rfl, hb20⟩
        have hA : w20.heap[w.heap.size]? = some (.cells #[.int .u64 lo, .int .u64 hi, .int .i64 sl, .int .i64 sh] 26) := hb20.heap (by repeat (first | (with_reducible refine al_eq _ _ _ ?_; (simp only [size_alloc]; done)) | with_reducible refine al_keep ?_ _ | with_reducible refine dr_keep ?_)) (by simp)
        have hX : w20.heap[w.heap.size + 1]? = some (.cells #[.int .u64 xlo, .int .u64 xhi, .int .i64 xsl, .int .i64 xsh] 26) := hb20.heap (by repeat (first | (with_reducible refine al_eq _ _ _ ?_; (simp only [size_alloc]; done)) | with_reducible refine al_keep ?_ _ | with_reducible refine dr_keep ?_)) (by simp)
        have hR : w20.heap[w.heap.size + 1 + 1]? = some (.cells #[.int .u64 0, .int .u64 0, .int .i64 0, .int .i64 0] 26) := hb20.heap (by repeat (first | (with_reducible refine al_eq _ _ _ ?_; (simp only [size_alloc]; done)) | with_reducible refine al_keep ?_ _ | with_reducible refine dr_keep ?_)) (by simp)
        have hM : w20.heap[w.heap.size + 1 + 1 + 1]? = some (.cells #[.int .u64 ml, .int .u64 mh, .int .i64 ms, .int .i64 mt] 26) := hb20.heap (by repeat (first | (with_reducible refine al_eq _ _ _ ?_; (simp only [size_alloc]; done)) | with_reducible refine al_keep ?_ _ | with_reducible refine dr_keep ?_)) (by simp)
        obtain ⟨cA0, cA1, cA2, cA3⟩ := c4_of hA
        have zA := lt_of hA
        obtain ⟨cX0, cX1, cX2, cX3⟩ := c4_of hX
        have zX := lt_of hX
        obtain ⟨cR0, cR1, cR2, cR3⟩ := c4_of hR
        obtain ⟨fR0, fR1, fR2, fR3⟩ := f4_of hR
        have zR := lt_of hR
        obtain ⟨cM0, cM1, cM2, cM3⟩ := c4_of hM
        have zM := lt_of hM
        have HB : Hid (But [] w w20) := Lib.hid ((by repeat (first | with_reducible exact But.refl _ _ | with_reducible refine But.drew ?_ | with_reducible refine But.alloc ?_ _) : But [] w _).trans hb20 (by simp))
        have HA := Lib.hid hA
        have HX := Lib.hid hX
        have HR := Lib.hid hR
        have HM := Lib.hid hM
        clear hA hX hR hM hb20
        go_wp2_with fail
        refine (G1.out _).mono ?_
        rintro e w21 ⟨rfl, hb21⟩
        have hA : w21.heap[w.heap.size]? = some (.cells #[.int .u64 lo, .int .u64 hi, .int .i64 sl, .int .i64 sh] 26) := hb21.heap (HA.out) (by simp)
        have hX : w21.heap[w.heap.size + 1]? = some (.cells #[.int .u64 xlo, .int .u64 xhi, .int .i64 xsl, .int .i64 xsh] 26) := hb21.heap (HX.out) (by simp)
        have hR : w21.heap[w.heap.size + 1 + 1]? = some (.cells #[.int .u64 0, .int .u64 0, .int .i64 0, .int .i64 0] 26) := hb21.heap (HR.out) (by simp)
        have hM : w21.heap[w.heap.size + 1 + 1 + 1]? = some (.cells #[.int .u64 ml, .int .u64 mh, .int .i64 ms, .int .i64 mt] 26) := hb21.heap (HM.out) (by simp)
        clear zA zX zR zM
        clear cA0 cA1 cA2 cA3 cX0 cX1 cX2 cX3 cR0 cR1 cR2 cR3 cM0 cM1 cM2 cM3
        clear fR0 fR1 fR2 fR3
        obtain ⟨cA0, cA1, cA2, cA3⟩ := c4_of hA
        have zA := lt_of hA
        obtain ⟨cX0, cX1, cX2, cX3⟩ := c4_of hX
        have zX := lt_of hX
        obtain ⟨cR0, cR1, cR2, cR3⟩ := c4_of hR
        obtain ⟨fR0, fR1, fR2, fR3⟩ := f4_of hR
        have zR := lt_of hR
        obtain ⟨cM0, cM1, cM2, cM3⟩ := c4_of hM
        have zM := lt_of hM
        have HB : Hid (But [] w w21) := Lib.hid ((HB.out).trans hb21 (by simp))
        have HA := Lib.hid hA
        have HX := Lib.hid hX
        have HR := Lib.hid hR
        have HM := Lib.hid hM
        clear hA hX hR hM hb21
        go_wp2_with fail
        refine (G2.out _).mono ?_
        rintro e w22 ⟨rfl, hb22⟩
        have hA : w22.heap[w.heap.size]? = some (.cells #[.int .u64 lo, .int .u64 hi, .int .i64 sl, .int .i64 sh] 26) := hb22.heap (HA.out) (by simp)
        have hX : w22.heap[w.heap.size + 1]? = some (.cells #[.int .u64 xlo, .int .u64 xhi, .int .i64 xsl, .int .i64 xsh] 26) := hb22.heap (HX.out) (by simp)
        have hR : w22.heap[w.heap.size + 1 + 1]? = some (.cells #[.int .u64 0, .int .u64 0, .int .i64 0, .int .i64 0] 26) := hb22.heap (HR.out) (by simp)
        have hM : w22.heap[w.heap.size + 1 + 1 + 1]? = some (.cells #[.int .u64 ml, .int .u64 mh, .int .i64 ms, .int .i64 mt] 26) := hb22.heap (HM.out) (by simp)
        clear zA zX zR zM
        clear cA0 cA1 cA2 cA3 cX0 cX1 cX2 cX3 cR0 cR1 cR2 cR3 cM0 cM1 cM2 cM3
        clear fR0 fR1 fR2 fR3
        obtain ⟨cA0, cA1, cA2, cA3⟩ := c4_of hA
        have zA := lt_of hA
        obtain ⟨cX0, cX1, cX2, cX3⟩ := c4_of hX
        have zX := lt_of hX
        obtain ⟨cR0, cR1, cR2, cR3⟩ := c4_of hR
        obtain ⟨fR0, fR1, fR2, fR3⟩ := f4_of hR
        have zR := lt_of hR
        obtain ⟨cM0, cM1, cM2, cM3⟩ := c4_of hM
        have zM := lt_of hM
        have HB : Hid (But [] w w22) := Lib.hid ((HB.out).trans hb22 (by simp))
        have HA := Lib.hid hA
        have HX := Lib.hid hX
        have HR := Lib.hid hR
        have HM := Lib.hid hM
        clear hA hX hR hM hb22
        go_wp2_with fail
        exact bodyPost_ret (v := .tuple #[.agg #[.int .u64 0, .int .u64 0, .int .i64 0, .int .i64 0], .bool false]) (by simp [results, Try.results107, go_sem, cR0, cR1, cR2, cR3]) rfl ⟨by unfold spMeetV; rw [HE.out]; rfl, by
    repeat (first | with_reducible exact HB.out | with_reducible refine But.alloc ?_ _ | (with_reducible refine But.setCell ?_ (.inr ?_) _; rotate_left; (simp only []; omega)))⟩
      | true =>
        rw [e2] at G2
        have HE : Hid (spMeetB ⟨lo, hi, sl, sh⟩ ⟨xlo, xhi, xsl, xsh⟩ = true) := Lib.hid (by unfold spMeetB; rw [HSP.out]; simp [e0, e1, e2])
        clear e0 e1 e2
        go_enter Try.func107, Try.ntmps107
        go_wp2_with fail
        refine (G0.out _).mono ?_
        rintro e w20 ⟨rfl, hb20⟩
        have hA : w20.heap[w.heap.size]? = some (.cells #[.int .u64 lo, .int .u64 hi, .int .i64 sl, .int .i64 sh] 26) := hb20.heap (by repeat (first | (with_reducible refine al_eq _ _ _ ?_; (simp only [size_alloc]; done)) | with_reducible refine al_keep ?_ _ | with_reducible refine dr_keep ?_)) (by simp)
        have hX : w20.heap[w.heap.size + 1]? = some (.cells #[.int .u64 xlo, .int .u64 xhi, .int .i64 xsl, .int .i64 xsh] 26) := hb20.heap (by repeat (first | (with_reducible refine al_eq _ _ _ ?_; (simp only [size_alloc]; done)) | with_reducible refine al_keep ?_ _ | with_reducible refine dr_keep ?_)) (by simp)
        have hR : w20.heap[w.heap.size + 1 + 1]? = some (.cells #[.int .u64 0, .int .u64 0, .int .i64 0, .int .i64 0] 26) := hb20.heap (by repeat (first | (with_reducible refine al_eq _ _ _ ?_; (simp only [size_alloc]; done)) | with_reducible refine al_keep ?_ _ | with_reducible refine dr_keep ?_)) (by simp)
        have hM : w20.heap[w.heap.size + 1 + 1 + 1]? = some (.cells #[.int .u64 ml, .int .u64 mh, .int .i64 ms, .int .i64 mt] 26) := hb20.heap (by repeat (first | (with_reducible refine al_eq _ _ _ ?_; (simp only [size_alloc]; done)) | with_reducible refine al_keep ?_ _ | with_reducible refine dr_keep ?_)) (by simp)
        obtain ⟨cA0, cA1, cA2, cA3⟩ := c4_of hA
        have zA := lt_of hA
        obtain ⟨cX0, cX1, cX2, cX3⟩ := c4_of hX
        have zX := lt_of hX
        obtain ⟨cR0, cR1, cR2, cR3⟩ := c4_of hR
        obtain ⟨fR0, fR1, fR2, fR3⟩ := f4_of hR
        have zR := lt_of hR
        obtain ⟨cM0, cM1, cM2, cM3⟩ := c4_of hM
        have zM := lt_of hM
        have HB : Hid (But [] w w20) := Lib.hid ((by repeat (first | with_reducible exact But.refl _ _ | with_reducible refine But.drew ?_ | with_reducible refine But.alloc ?_ _) : But [] w _).trans hb20 (by simp))
        have HA := Lib.hid hA
        have HX := Lib.hid hX
        have HR := Lib.hid hR
        have HM := Lib.hid hM
        clear hA hX hR hM hb20
        go_wp2_with fail
        refine (G1.out _).mono ?_
        rintro e w21 ⟨rfl, hb21⟩
        have hA : w21.heap[w.heap.size]? = some (.cells #[.int .u64 lo, .int .u64 hi, .int .i64 sl, .int .i64 sh] 26) := hb21.heap (HA.out) (by simp)
        have hX : w21.heap[w.heap.size + 1]? = some (.cells #[.int .u64 xlo, .int .u64 xhi, .int .i64 xsl, .int .i64 xsh] 26) := hb21.heap (HX.out) (by simp)
        have hR : w21.heap[w.heap.size + 1 + 1]? = some (.cells #[.int .u64 0, .int .u64 0, .int .i64 0, .int .i64 0] 26) := hb21.heap (HR.out) (by simp)
        have hM : w21.heap[w.heap.size + 1 + 1 + 1]? = some (.cells #[.int .u64 ml, .int .u64 mh, .int .i64 ms, .int .i64 mt] 26) := hb21.heap (HM.out) (by simp)
        clear zA zX zR zM
        clear cA0 cA1 cA2 cA3 cX0 cX1 cX2 cX3 cR0 cR1 cR2 cR3 cM0 cM1 cM2 cM3
        clear fR0 fR1 fR2 fR3
        obtain ⟨cA0, cA1, cA2, cA3⟩ := c4_of hA
        have zA := lt_of hA
        obtain ⟨cX0, cX1, cX2, cX3⟩ := c4_of hX
        have zX := lt_of hX
        obtain ⟨cR0, cR1, cR2, cR3⟩ := c4_of hR
        obtain ⟨fR0, fR1, fR2, fR3⟩ := f4_of hR
        have zR := lt_of hR
        obtain ⟨cM0, cM1, cM2, cM3⟩ := c4_of hM
        have zM := lt_of hM
        have HB : Hid (But [] w w21) := Lib.hid ((HB.out).trans hb21 (by simp))
        have HA := Lib.hid hA
        have HX := Lib.hid hX
        have HR := Lib.hid hR
        have HM := Lib.hid hM
        clear hA hX hR hM hb21
        go_wp2_with fail
        refine (G2.out _).mono ?_
        rintro e w22 ⟨rfl, hb22⟩
        have hA : w22.heap[w.heap.size]? = some (.cells #[.int .u64 lo, .int .u64 hi, .int .i64 sl, .int .i64 sh] 26) := hb22.heap (HA.out) (by simp)
        have hX : w22.heap[w.heap.size + 1]? = some (.cells #[.int .u64 xlo, .int .u64 xhi, .int .i64 xsl, .int .i64 xsh] 26) := hb22.heap (HX.out) (by simp)
        have hR : w22.heap[w.heap.size + 1 + 1]? = some (.cells #[.int .u64 0, .int .u64 0, .int .i64 0, .int .i64 0] 26) := hb22.heap (HR.out) (by simp)
        have hM : w22.heap[w.heap.size + 1 + 1 + 1]? = some (.cells #[.int .u64 ml, .int .u64 mh, .int .i64 ms, .int .i64 mt] 26) := hb22.heap (HM.out) (by simp)
        clear zA zX zR zM
        clear cA0 cA1 cA2 cA3 cX0 cX1 cX2 cX3 cR0 cR1 cR2 cR3 cM0 cM1 cM2 cM3
        clear fR0 fR1 fR2 fR3
        obtain ⟨cA0, cA1, cA2, cA3⟩ := c4_of hA
        have zA := lt_of hA
        obtain ⟨cX0, cX1, cX2, cX3⟩ := c4_of hX
        have zX := lt_of hX
        obtain ⟨cR0, cR1, cR2, cR3⟩ := c4_of hR
        obtain ⟨fR0, fR1, fR2, fR3⟩ := f4_of hR
        have zR := lt_of hR
        obtain ⟨cM0, cM1, cM2, cM3⟩ := c4_of hM
        have zM := lt_of hM
        have HB : Hid (But [] w w22) := Lib.hid ((HB.out).trans hb22 (by simp))
        have HA := Lib.hid hA
        have HX := Lib.hid hX
        have HR := Lib.hid hR
        have HM := Lib.hid hM
        clear hA hX hR hM hb22
        go_wp2_with fail
        exact bodyPost_ret (v := .tuple #[.agg #[.int .u64 ml, .int .u64 mh, .int .i64 ms, .int .i64 mt], .bool true]) (by simp [results, Try.results107, go_sem, cR0, cR1, cR2, cR3]) rfl ⟨by unfold spMeetV; rw [HE.out, HSP.out]; rfl, by
    repeat (first | with_reducible exact HB.out | with_reducible refine But.alloc ?_ _ | (with_reducible refine But.setCell ?_ (.inr ?_) _; rotate_left; (simp only []; omega)))⟩
set_option maxRecDepth 100000 in
set_option maxHeartbeats 4000000 in
theorem r19Meet0 (v m lo hi xv xm xlo xhi : Nat) (sl sh xsl xsh : Int) (w : World) (hr : Rg ⟨⟨v, m⟩, ⟨lo, hi, sl, sh⟩⟩) (hx : Rg ⟨⟨xv, xm⟩, ⟨xlo, xhi, xsl, xsh⟩⟩) : Calls Try.prog 69 #[.agg #[.int .u64 v, .int .u64 m, .int .u64 lo, .int .u64 hi, .int .i64 sl, .int .i64 sh], .agg #[.int .u64 xv, .int .u64 xm, .int .u64 xlo, .int .u64 xhi, .int .i64 xsl, .int .i64 xsh]] w (RulePost (scMeetT ⟨⟨v, m⟩, ⟨lo, hi, sl, sh⟩⟩ ⟨⟨xv, xm⟩, ⟨xlo, xhi, xsl, xsh⟩⟩) w) := by
  have G0 := Lib.hid (fun w => r19Right0 v m lo hi sl sh w hr)
  have G1 := Lib.hid (fun w => r19Right0 xv xm xlo xhi xsl xsh w hx)
  have hMR := fun h => spMeetRg hr hx h
  have hM := fun w => r17Meet v m xv xm w hr.v hx.v
  obtain ⟨⟨tv, tm⟩, ht⟩ : ∃ r : Tn, r = meetT ⟨v, m⟩ ⟨xv, xm⟩ := ⟨_, rfl⟩
  rw [← ht] at hM
  simp only [Tn.val] at hM
  have G2 := Lib.hid hM
  have hS := fun w => r18Meet lo hi xlo xhi sl sh xsl xsh w
  obtain ⟨⟨ml, mh, ms, mt⟩, hs⟩ : ∃ r : Sp, r = spMeetV ⟨lo, hi, sl, sh⟩ ⟨xlo, xhi, xsl, xsh⟩ := ⟨_, rfl⟩
  rw [← hs] at hS
  simp only [Sp.val] at hS
  have G3 := Lib.hid hS
  have HT := Lib.hid ht
  have HSV := Lib.hid hs
  have HMR := Lib.hid hMR
  clear hM hS ht hs hr hx hMR
  cases e0 : rightB ⟨⟨v, m⟩, ⟨lo, hi, sl, sh⟩⟩ with
  | false =>
    rw [e0] at G0
    have HE : Hid (scMeetT ⟨⟨v, m⟩, ⟨lo, hi, sl, sh⟩⟩ ⟨⟨xv, xm⟩, ⟨xlo, xhi, xsl, xsh⟩⟩ = none) := Lib.hid (by unfold scMeetT; rw [if_neg]; simp [e0])
    clear e0 HT HSV HMR
    go_enter Try.func69, Try.ntmps69
    go_wp2_with fail
    refine (G0.out _).mono ?_
    rintro e w8 ⟨rfl, hb8⟩
    have hA : w8.heap[w.heap.size]? = some (.cells #[.int .u64 v, .int .u64 m, .int .u64 lo, .int .u64 hi, .int .i64 sl, .int .i64 sh] 28) := hb8.heap (by repeat (first | (with_reducible refine al_eq _ _ _ ?_; (simp only [size_alloc]; done)) | with_reducible refine al_keep ?_ _ | with_reducible refine dr_keep ?_)) (by simp)
    have hX : w8.heap[w.heap.size + 1]? = some (.cells #[.int .u64 xv, .int .u64 xm, .int .u64 xlo, .int .u64 xhi, .int .i64 xsl, .int .i64 xsh] 28) := hb8.heap (by repeat (first | (with_reducible refine al_eq _ _ _ ?_; (simp only [size_alloc]; done)) | with_reducible refine al_keep ?_ _ | with_reducible refine dr_keep ?_)) (by simp)
    have hR : w8.heap[w.heap.size + 1 + 1]? = some (.cells #[.int .u64 0, .int .u64 0, .int .u64 0, .int .u64 0, .int .i64 0, .int .i64 0] 28) := hb8.heap (by repeat (first | (with_reducible refine al_eq _ _ _ ?_; (simp only [size_alloc]; done)) | with_reducible refine al_keep ?_ _ | with_reducible refine dr_keep ?_)) (by simp)
    obtain ⟨cA0, cA1, cA2, cA3, cA4, cA5⟩ := c6_of hA
    have zA := lt_of hA
    obtain ⟨cX0, cX1, cX2, cX3, cX4, cX5⟩ := c6_of hX
    have zX := lt_of hX
    obtain ⟨cR0, cR1, cR2, cR3, cR4, cR5⟩ := c6_of hR
    obtain ⟨fR0, fR1, fR2, fR3, fR4, fR5⟩ := f6_of hR
    have zR := lt_of hR
    have HB : Hid (But [] w w8) := Lib.hid ((by repeat (first | with_reducible exact But.refl _ _ | with_reducible refine But.drew ?_ | with_reducible refine But.alloc ?_ _) : But [] w _).trans hb8 (by simp))
    have HA := Lib.hid hA
    have HX := Lib.hid hX
    have HR := Lib.hid hR
    clear hA hX hR hb8
    go_wp2_with fail
    exact bodyPost_ret (v := .tuple #[.agg #[.int .u64 0, .int .u64 0, .int .u64 0, .int .u64 0, .int .i64 0, .int .i64 0], .bool false]) (by simp [results, Try.results69, go_sem, cR0, cR1, cR2, cR3, cR4, cR5]) rfl (RulePost.mk (zeroSc) (by rw [HE.out]; rfl) (fun d hd => by rw [HE.out] at hd; cases hd) (by
    repeat (first | with_reducible exact HB.out | with_reducible refine But.alloc ?_ _ | (with_reducible refine But.setCell ?_ (.inr ?_) _; rotate_left; (simp only []; omega)))))
  | true =>
    rw [e0] at G0
    cases e1 : rightB ⟨⟨xv, xm⟩, ⟨xlo, xhi, xsl, xsh⟩⟩ with
    | false =>
      rw [e1] at G1
      have HE : Hid (scMeetT ⟨⟨v, m⟩, ⟨lo, hi, sl, sh⟩⟩ ⟨⟨xv, xm⟩, ⟨xlo, xhi, xsl, xsh⟩⟩ = none) := Lib.hid (by unfold scMeetT; rw [if_neg]; simp [e1])
      clear e0 e1 HT HSV HMR
      go_enter Try.func69, Try.ntmps69
      go_wp2_with fail
      refine (G0.out _).mono ?_
      rintro e w8 ⟨rfl, hb8⟩
      have hA : w8.heap[w.heap.size]? = some (.cells #[.int .u64 v, .int .u64 m, .int .u64 lo, .int .u64 hi, .int .i64 sl, .int .i64 sh] 28) := hb8.heap (by repeat (first | (with_reducible refine al_eq _ _ _ ?_; (simp only [size_alloc]; done)) | with_reducible refine al_keep ?_ _ | with_reducible refine dr_keep ?_)) (by simp)
      have hX : w8.heap[w.heap.size + 1]? = some (.cells #[.int .u64 xv, .int .u64 xm, .int .u64 xlo, .int .u64 xhi, .int .i64 xsl, .int .i64 xsh] 28) := hb8.heap (by repeat (first | (with_reducible refine al_eq _ _ _ ?_; (simp only [size_alloc]; done)) | with_reducible refine al_keep ?_ _ | with_reducible refine dr_keep ?_)) (by simp)
      have hR : w8.heap[w.heap.size + 1 + 1]? = some (.cells #[.int .u64 0, .int .u64 0, .int .u64 0, .int .u64 0, .int .i64 0, .int .i64 0] 28) := hb8.heap (by repeat (first | (with_reducible refine al_eq _ _ _ ?_; (simp only [size_alloc]; done)) | with_reducible refine al_keep ?_ _ | with_reducible refine dr_keep ?_)) (by simp)
      obtain ⟨cA0, cA1, cA2, cA3, cA4, cA5⟩ := c6_of hA
      have zA := lt_of hA
      obtain ⟨cX0, cX1, cX2, cX3, cX4, cX5⟩ := c6_of hX
      have zX := lt_of hX
      obtain ⟨cR0, cR1, cR2, cR3, cR4, cR5⟩ := c6_of hR
      obtain ⟨fR0, fR1, fR2, fR3, fR4, fR5⟩ := f6_of hR
      have zR := lt_of hR
      have HB : Hid (But [] w w8) := Lib.hid ((by repeat (first | with_reducible exact But.refl _ _ | with_reducible refine But.drew ?_ | with_reducible refine But.alloc ?_ _) : But [] w _).trans hb8 (by simp))
      have HA := Lib.hid hA
      have HX := Lib.hid hX
      have HR := Lib.hid hR
      clear hA hX hR hb8
      go_wp2_with fail
      refine (G1.out _).mono ?_
      rintro e w9 ⟨rfl, hb9⟩
      have hA : w9.heap[w.heap.size]? = some (.cells #[.int .u64 v, .int .u64 m, .int .u64 lo, .int .u64 hi, .int .i64 sl, .int .i64 sh] 28) := hb9.heap (HA.out) (by simp)
      have hX : w9.heap[w.heap.size + 1]? = some (.cells #[.int .u64 xv, .int .u64 xm, .int .u64 xlo, .int .u64 xhi, .int .i64 xsl, .int .i64 xsh] 28) := hb9.heap (HX.out) (by simp)
      have hR : w9.heap[w.heap.size + 1 + 1]? = some (.cells #[.int .u64 0, .int .u64 0, .int .u64 0, .int .u64 0, .int .i64 0, .int .i64 0] 28) := hb9.heap (HR.out) (by simp)
      clear zA zX zR
      clear cA0 cA1 cA2 cA3 cA4 cA5 cX0 cX1 cX2 cX3 cX4 cX5 cR0 cR1 cR2 cR3 cR4 cR5
      clear fR0 fR1 fR2 fR3 fR4 fR5
      obtain ⟨cA0, cA1, cA2, cA3, cA4, cA5⟩ := c6_of hA
      have zA := lt_of hA
      obtain ⟨cX0, cX1, cX2, cX3, cX4, cX5⟩ := c6_of hX
      have zX := lt_of hX
      obtain ⟨cR0, cR1, cR2, cR3, cR4, cR5⟩ := c6_of hR
      obtain ⟨fR0, fR1, fR2, fR3, fR4, fR5⟩ := f6_of hR
      have zR := lt_of hR
      have HB : Hid (But [] w w9) := Lib.hid ((HB.out).trans hb9 (by simp))
      have HA := Lib.hid hA
      have HX := Lib.hid hX
      have HR := Lib.hid hR
      clear hA hX hR hb9
      go_wp2_with fail
      exact bodyPost_ret (v := .tuple #[.agg #[.int .u64 0, .int .u64 0, .int .u64 0, .int .u64 0, .int .i64 0, .int .i64 0], .bool false]) (by simp [results, Try.results69, go_sem, cR0, cR1, cR2, cR3, cR4, cR5]) rfl (RulePost.mk (zeroSc) (by rw [HE.out]; rfl) (fun d hd => by rw [HE.out] at hd; cases hd) (by
    repeat (first | with_reducible exact HB.out | with_reducible refine But.alloc ?_ _ | (with_reducible refine But.setCell ?_ (.inr ?_) _; rotate_left; (simp only []; omega)))))
    | true =>
      rw [e1] at G1
      cases e2 : meetB ⟨v, m⟩ ⟨xv, xm⟩ with
      | false =>
        rw [e2] at G2
        have HE : Hid (scMeetT ⟨⟨v, m⟩, ⟨lo, hi, sl, sh⟩⟩ ⟨⟨xv, xm⟩, ⟨xlo, xhi, xsl, xsh⟩⟩ = none) := Lib.hid (by unfold scMeetT; rw [if_neg]; simp [e2])
        obtain ⟨sb, hsb⟩ : ∃ b, b = spMeetB ⟨lo, hi, sl, sh⟩ ⟨xlo, xhi, xsl, xsh⟩ := ⟨_, rfl⟩
        rw [← hsb] at G3
        clear hsb
        clear e0 e1 e2 HT HSV HMR
        go_enter Try.func69, Try.ntmps69
        go_wp2_with fail
        refine (G0.out _).mono ?_
        rintro e w8 ⟨rfl, hb8⟩
        have hA : w8.heap[w.heap.size]? = some (.cells #[.int .u64 v, .int .u64 m, .int .u64 lo, .int .u64 hi, .int .i64 sl, .int .i64 sh] 28) := hb8.heap (by repeat (first | (with_reducible refine al_eq _ _ _ ?_; (simp only [size_alloc]; done)) | with_reducible refine al_keep ?_ _ | with_reducible refine dr_keep ?_)) (by simp)
        have hX : w8.heap[w.heap.size + 1]? = some (.cells #[.int .u64 xv, .int .u64 xm, .int .u64 xlo, .int .u64 xhi, .int .i64 xsl, .int .i64 xsh] 28) := hb8.heap (by repeat (first | (with_reducible refine al_eq _ _ _ ?_; (simp only [size_alloc]; done)) | with_reducible refine al_keep ?_ _ | with_reducible refine dr_keep ?_)) (by simp)
        have hR : w8.heap[w.heap.size + 1 + 1]? = some (.cells #[.int .u64 0, .int .u64 0, .int .u64 0, .int .u64 0, .int .i64 0, .int .i64 0] 28) := hb8.heap (by repeat (first | (with_reducible refine al_eq _ _ _ ?_; (simp only [size_alloc]; done)) | with_reducible refine al_keep ?_ _ | with_reducible refine dr_keep ?_)) (by simp)
        obtain ⟨cA0, cA1, cA2, cA3, cA4, cA5⟩ := c6_of hA
        have zA := lt_of hA
        obtain ⟨cX0, cX1, cX2, cX3, cX4, cX5⟩ := c6_of hX
        have zX := lt_of hX
        obtain ⟨cR0, cR1, cR2, cR3, cR4, cR5⟩ := c6_of hR
        obtain ⟨fR0, fR1, fR2, fR3, fR4, fR5⟩ := f6_of hR
        have zR := lt_of hR
        have HB : Hid (But [] w w8) := Lib.hid ((by repeat (first | with_reducible exact But.refl _ _ | with_reducible refine But.drew ?_ | with_reducible refine But.alloc ?_ _) : But [] w _).trans hb8 (by simp))
        have HA := Lib.hid hA
        have HX := Lib.hid hX
        have HR := Lib.hid hR
        clear hA hX hR hb8
        go_wp2_with fail
        refine (G1.out _).mono ?_
        rintro e w9 ⟨rfl, hb9⟩
        have hA : w9.heap[w.heap.size]? = some (.cells #[.int .u64 v, .int .u64 m, .int .u64 lo, .int .u64 hi, .int .i64 sl, .int .i64 sh] 28) := hb9.heap (HA.out) (by simp)
        have hX : w9.heap[w.heap.size + 1]? = some (.cells #[.int .u64 xv, .int .u64 xm, .int .u64 xlo, .int .u64 xhi, .int .i64 xsl, .int .i64 xsh] 28) := hb9.heap (HX.out) (by simp)
        have hR : w9.heap[w.heap.size + 1 + 1]? = some (.cells #[.int .u64 0, .int .u64 0, .int .u64 0, .int .u64 0, .int .i64 0, .int .i64 0] 28) := hb9.heap (HR.out) (by simp)
        clear zA zX zR
        clear cA0 cA1 cA2 cA3 cA4 cA5 cX0 cX1 cX2 cX3 cX4 cX5 cR0 cR1 cR2 cR3 cR4 cR5
        clear fR0 fR1 fR2 fR3 fR4 fR5
        obtain ⟨cA0, cA1, cA2, cA3, cA4, cA5⟩ := c6_of hA
        have zA := lt_of hA
        obtain ⟨cX0, cX1, cX2, cX3, cX4, cX5⟩ := c6_of hX
        have zX := lt_of hX
        obtain ⟨cR0, cR1, cR2, cR3, cR4, cR5⟩ := c6_of hR
        obtain ⟨fR0, fR1, fR2, fR3, fR4, fR5⟩ := f6_of hR
        have zR := lt_of hR
        have HB : Hid (But [] w w9) := Lib.hid ((HB.out).trans hb9 (by simp))
        have HA := Lib.hid hA
        have HX := Lib.hid hX
        have HR := Lib.hid hR
        clear hA hX hR hb9
        go_wp2_with fail
        refine (G2.out _).mono ?_
        rintro e w10 ⟨rfl, hb10⟩
        have hA : w10.heap[w.heap.size]? = some (.cells #[.int .u64 v, .int .u64 m, .int .u64 lo, .int .u64 hi, .int .i64 sl, .int .i64 sh] 28) := hb10.heap (HA.out) (by simp)
        have hX : w10.heap[w.heap.size + 1]? = some (.cells #[.int .u64 xv, .int .u64 xm, .int .u64 xlo, .int .u64 xhi, .int .i64 xsl, .int .i64 xsh] 28) := hb10.heap (HX.out) (by simp)
        have hR : w10.heap[w.heap.size + 1 + 1]? = some (.cells #[.int .u64 0, .int .u64 0, .int .u64 0, .int .u64 0, .int .i64 0, .int .i64 0] 28) := hb10.heap (HR.out) (by simp)
        clear zA zX zR
        clear cA0 cA1 cA2 cA3 cA4 cA5 cX0 cX1 cX2 cX3 cX4 cX5 cR0 cR1 cR2 cR3 cR4 cR5
        clear fR0 fR1 fR2 fR3 fR4 fR5
        obtain ⟨cA0, cA1, cA2, cA3, cA4, cA5⟩ := c6_of hA
        have zA := lt_of hA
        obtain ⟨cX0, cX1, cX2, cX3, cX4, cX5⟩ := c6_of hX
        have zX := lt_of hX
        obtain ⟨cR0, cR1, cR2, cR3, cR4, cR5⟩ := c6_of hR
        obtain ⟨fR0, fR1, fR2, fR3, fR4, fR5⟩ := f6_of hR
        have zR := lt_of hR
        have HB : Hid (But [] w w10) := Lib.hid ((HB.out).trans hb10 (by simp))
        have HA := Lib.hid hA
        have HX := Lib.hid hX
        have HR := Lib.hid hR
        clear hA hX hR hb10
        go_upto_region 4 with (fail)
        generalize hw : World.alloc w10 _ = w11
        have hA : w11.heap[w.heap.size]? = some (.cells #[.int .u64 v, .int .u64 m, .int .u64 lo, .int .u64 hi, .int .i64 sl, .int .i64 sh] 28) := by rw [← hw]; exact al_keep HA.out _
        have hX : w11.heap[w.heap.size + 1]? = some (.cells #[.int .u64 xv, .int .u64 xm, .int .u64 xlo, .int .u64 xhi, .int .i64 xsl, .int .i64 xsh] 28) := by rw [← hw]; exact al_keep HX.out _
        have hR : w11.heap[w.heap.size + 1 + 1]? = some (.cells #[.int .u64 0, .int .u64 0, .int .u64 0, .int .u64 0, .int .i64 0, .int .i64 0] 28) := by rw [← hw]; exact al_keep HR.out _
        have hT : w11.heap[w10.heap.size]? = some (.cells #[.int .u64 tv, .int .u64 tm] 24) := by rw [← hw]; exact al_at _ _
        have HB : Hid (But [] w w11) := Lib.hid (by rw [← hw]; exact HB.out.alloc _)
        clear hw
        clear zA zX zR cA0 cA1 cA2 cA3 cA4 cA5 cX0 cX1 cX2 cX3 cX4 cX5 cR0 cR1 cR2 cR3 cR4 cR5 fR0 fR1 fR2 fR3 fR4 fR5
        obtain ⟨cA0, cA1, cA2, cA3, cA4, cA5⟩ := c6_of hA
        have zA := lt_of hA
        obtain ⟨cX0, cX1, cX2, cX3, cX4, cX5⟩ := c6_of hX
        have zX := lt_of hX
        obtain ⟨cR0, cR1, cR2, cR3, cR4, cR5⟩ := c6_of hR
        obtain ⟨fR0, fR1, fR2, fR3, fR4, fR5⟩ := f6_of hR
        have zR := lt_of hR
        obtain ⟨cT0, cT1⟩ := c2_of hT
        have zT := lt_of hT
        have HA := Lib.hid hA
        have HX := Lib.hid hX
        have HR := Lib.hid hR
        have HT := Lib.hid hT
        clear hA hX hR hT
        go_wp2_with fail
        refine (G3.out _).mono ?_
        rintro e w12 ⟨rfl, hb12⟩
        have hA : w12.heap[w.heap.size]? = some (.cells #[.int .u64 v, .int .u64 m, .int .u64 lo, .int .u64 hi, .int .i64 sl, .int .i64 sh] 28) := hb12.heap (HA.out) (by simp)
        have hX : w12.heap[w.heap.size + 1]? = some (.cells #[.int .u64 xv, .int .u64 xm, .int .u64 xlo, .int .u64 xhi, .int .i64 xsl, .int .i64 xsh] 28) := hb12.heap (HX.out) (by simp)
        have hR : w12.heap[w.heap.size + 1 + 1]? = some (.cells #[.int .u64 0, .int .u64 0, .int .u64 0, .int .u64 0, .int .i64 0, .int .i64 0] 28) := hb12.heap (HR.out) (by simp)
        have hT : w12.heap[w10.heap.size]? = some (.cells #[.int .u64 tv, .int .u64 tm] 24) := hb12.heap (HT.out) (by simp)
        clear zA zX zR zT
        clear cA0 cA1 cA2 cA3 cA4 cA5 cX0 cX1 cX2 cX3 cX4 cX5 cR0 cR1 cR2 cR3 cR4 cR5 cT0 cT1
        clear fR0 fR1 fR2 fR3 fR4 fR5
        obtain ⟨cA0, cA1, cA2, cA3, cA4, cA5⟩ := c6_of hA
        have zA := lt_of hA
        obtain ⟨cX0, cX1, cX2, cX3, cX4, cX5⟩ := c6_of hX
        have zX := lt_of hX
        obtain ⟨cR0, cR1, cR2, cR3, cR4, cR5⟩ := c6_of hR
        obtain ⟨fR0, fR1, fR2, fR3, fR4, fR5⟩ := f6_of hR
        have zR := lt_of hR
        obtain ⟨cT0, cT1⟩ := c2_of hT
        have zT := lt_of hT
        have HB : Hid (But [] w w12) := Lib.hid ((HB.out).trans hb12 (by simp))
        have HA := Lib.hid hA
        have HX := Lib.hid hX
        have HR := Lib.hid hR
        have HT := Lib.hid hT
        clear hA hX hR hT hb12
        go_upto_region 5 with (fail)
        generalize hw : World.alloc w12 _ = w13
        have hA : w13.heap[w.heap.size]? = some (.cells #[.int .u64 v, .int .u64 m, .int .u64 lo, .int .u64 hi, .int .i64 sl, .int .i64 sh] 28) := by rw [← hw]; exact al_keep HA.out _
        have hX : w13.heap[w.heap.size + 1]? = some (.cells #[.int .u64 xv, .int .u64 xm, .int .u64 xlo, .int .u64 xhi, .int .i64 xsl, .int .i64 xsh] 28) := by rw [← hw]; exact al_keep HX.out _
        have hR : w13.heap[w.heap.size + 1 + 1]? = some (.cells #[.int .u64 0, .int .u64 0, .int .u64 0, .int .u64 0, .int .i64 0, .int .i64 0] 28) := by rw [← hw]; exact al_keep HR.out _
        have hT : w13.heap[w10.heap.size]? = some (.cells #[.int .u64 tv, .int .u64 tm] 24) := by rw [← hw]; exact al_keep HT.out _
        have hV : w13.heap[w12.heap.size]? = some (.cells #[.int .u64 ml, .int .u64 mh, .int .i64 ms, .int .i64 mt] 26) := by rw [← hw]; exact al_at _ _
        have HB : Hid (But [] w w13) := Lib.hid (by rw [← hw]; exact HB.out.alloc _)
        clear hw
        clear zA zX zR zT cA0 cA1 cA2 cA3 cA4 cA5 cX0 cX1 cX2 cX3 cX4 cX5 cR0 cR1 cR2 cR3 cR4 cR5 cT0 cT1 fR0 fR1 fR2 fR3 fR4 fR5
        obtain ⟨cA0, cA1, cA2, cA3, cA4, cA5⟩ := c6_of hA
        have zA := lt_of hA
        obtain ⟨cX0, cX1, cX2, cX3, cX4, cX5⟩ := c6_of hX
        have zX := lt_of hX
        obtain ⟨cR0, cR1, cR2, cR3, cR4, cR5⟩ := c6_of hR
        obtain ⟨fR0, fR1, fR2, fR3, fR4, fR5⟩ := f6_of hR
        have zR := lt_of hR
        obtain ⟨cT0, cT1⟩ := c2_of hT
        have zT := lt_of hT
        obtain ⟨cV0, cV1, cV2, cV3⟩ := c4_of hV
        have zV := lt_of hV
        have HA := Lib.hid hA
        have HX := Lib.hid hX
        have HR := Lib.hid hR
        have HT := Lib.hid hT
        have HV := Lib.hid hV
        clear hA hX hR hT hV
        go_wp2_with fail
        exact bodyPost_ret (v := .tuple #[.agg #[.int .u64 0, .int .u64 0, .int .u64 0, .int .u64 0, .int .i64 0, .int .i64 0], .bool false]) (by simp [results, Try.results69, go_sem, cR0, cR1, cR2, cR3, cR4, cR5]) rfl (RulePost.mk (zeroSc) (by rw [HE.out]; rfl) (fun d hd => by rw [HE.out] at hd; cases hd) (by
    repeat (first | with_reducible exact HB.out | with_reducible refine But.alloc ?_ _ | (with_reducible refine But.setCell ?_ (.inr ?_) _; rotate_left; (simp only []; omega)))))
      | true =>
        rw [e2] at G2
        cases e3 : spMeetB ⟨lo, hi, sl, sh⟩ ⟨xlo, xhi, xsl, xsh⟩ with
        | false =>
          rw [e3] at G3
          have HE : Hid (scMeetT ⟨⟨v, m⟩, ⟨lo, hi, sl, sh⟩⟩ ⟨⟨xv, xm⟩, ⟨xlo, xhi, xsl, xsh⟩⟩ = none) := Lib.hid (by unfold scMeetT; rw [if_neg]; simp [e3])
          clear e0 e1 e2 e3 HT HSV HMR
          go_enter Try.func69, Try.ntmps69
          go_wp2_with fail
          refine (G0.out _).mono ?_
          rintro e w8 ⟨rfl, hb8⟩
          have hA : w8.heap[w.heap.size]? = some (.cells #[.int .u64 v, .int .u64 m, .int .u64 lo, .int .u64 hi, .int .i64 sl, .int .i64 sh] 28) := hb8.heap (by repeat (first | (with_reducible refine al_eq _ _ _ ?_; (simp only [size_alloc]; done)) | with_reducible refine al_keep ?_ _ | with_reducible refine dr_keep ?_)) (by simp)
          have hX : w8.heap[w.heap.size + 1]? = some (.cells #[.int .u64 xv, .int .u64 xm, .int .u64 xlo, .int .u64 xhi, .int .i64 xsl, .int .i64 xsh] 28) := hb8.heap (by repeat (first | (with_reducible refine al_eq _ _ _ ?_; (simp only [size_alloc]; done)) | with_reducible refine al_keep ?_ _ | with_reducible refine dr_keep ?_)) (by simp)
          have hR : w8.heap[w.heap.size + 1 + 1]? = some (.cells #[.int .u64 0, .int .u64 0, .int .u64 0, .int .u64 0, .int .i64 0, .int .i64 0] 28) := hb8.heap (by repeat (first | (with_reducible refine al_eq _ _ _ ?_; (simp only [size_alloc]; done)) | with_reducible refine al_keep ?_ _ | with_reducible refine dr_keep ?_)) (by simp)
          obtain ⟨cA0, cA1, cA2, cA3, cA4, cA5⟩ := c6_of hA
          have zA := lt_of hA
          obtain ⟨cX0, cX1, cX2, cX3, cX4, cX5⟩ := c6_of hX
          have zX := lt_of hX
          obtain ⟨cR0, cR1, cR2, cR3, cR4, cR5⟩ := c6_of hR
          obtain ⟨fR0, fR1, fR2, fR3, fR4, fR5⟩ := f6_of hR
          have zR := lt_of hR
          have HB : Hid (But [] w w8) := Lib.hid ((by repeat (first | with_reducible exact But.refl _ _ | with_reducible refine But.drew ?_ | with_reducible refine But.alloc ?_ _) : But [] w _).trans hb8 (by simp))
          have HA := Lib.hid hA
          have HX := Lib.hid hX
          have HR := Lib.hid hR
          clear hA hX hR hb8
          go_wp2_with fail
          refine (G1.out _).mono ?_
          rintro e w9 ⟨rfl, hb9⟩
          have hA : w9.heap[w.heap.size]? = some (.cells #[.int .u64 v, .int .u64 m, .int .u64 lo, .int .u64 hi, .int .i64 sl, .int .i64 sh] 28) := hb9.heap (HA.out) (by simp)
          have hX : w9.heap[w.heap.size + 1]? = some (.cells #[.int .u64 xv, .int .u64 xm, .int .u64 xlo, .int .u64 xhi, .int .i64 xsl, .int .i64 xsh] 28) := hb9.heap (HX.out) (by simp)
          have hR : w9.heap[w.heap.size + 1 + 1]? = some (.cells #[.int .u64 0, .int .u64 0, .int .u64 0, .int .u64 0, .int .i64 0, .int .i64 0] 28) := hb9.heap (HR.out) (by simp)
          clear zA zX zR
          clear cA0 cA1 cA2 cA3 cA4 cA5 cX0 cX1 cX2 cX3 cX4 cX5 cR0 cR1 cR2 cR3 cR4 cR5
          clear fR0 fR1 fR2 fR3 fR4 fR5
          obtain ⟨cA0, cA1, cA2, cA3, cA4, cA5⟩ := c6_of hA
          have zA := lt_of hA
          obtain ⟨cX0, cX1, cX2, cX3, cX4, cX5⟩ := c6_of hX
          have zX := lt_of hX
          obtain ⟨cR0, cR1, cR2, cR3, cR4, cR5⟩ := c6_of hR
          obtain ⟨fR0, fR1, fR2, fR3, fR4, fR5⟩ := f6_of hR
          have zR := lt_of hR
          have HB : Hid (But [] w w9) := Lib.hid ((HB.out).trans hb9 (by simp))
          have HA := Lib.hid hA
          have HX := Lib.hid hX
          have HR := Lib.hid hR
          clear hA hX hR hb9
          go_wp2_with fail
          refine (G2.out _).mono ?_
          rintro e w10 ⟨rfl, hb10⟩
          have hA : w10.heap[w.heap.size]? = some (.cells #[.int .u64 v, .int .u64 m, .int .u64 lo, .int .u64 hi, .int .i64 sl, .int .i64 sh] 28) := hb10.heap (HA.out) (by simp)
          have hX : w10.heap[w.heap.size + 1]? = some (.cells #[.int .u64 xv, .int .u64 xm, .int .u64 xlo, .int .u64 xhi, .int .i64 xsl, .int .i64 xsh] 28) := hb10.heap (HX.out) (by simp)
          have hR : w10.heap[w.heap.size + 1 + 1]? = some (.cells #[.int .u64 0, .int .u64 0, .int .u64 0, .int .u64 0, .int .i64 0, .int .i64 0] 28) := hb10.heap (HR.out) (by simp)
          clear zA zX zR
          clear cA0 cA1 cA2 cA3 cA4 cA5 cX0 cX1 cX2 cX3 cX4 cX5 cR0 cR1 cR2 cR3 cR4 cR5
          clear fR0 fR1 fR2 fR3 fR4 fR5
          obtain ⟨cA0, cA1, cA2, cA3, cA4, cA5⟩ := c6_of hA
          have zA := lt_of hA
          obtain ⟨cX0, cX1, cX2, cX3, cX4, cX5⟩ := c6_of hX
          have zX := lt_of hX
          obtain ⟨cR0, cR1, cR2, cR3, cR4, cR5⟩ := c6_of hR
          obtain ⟨fR0, fR1, fR2, fR3, fR4, fR5⟩ := f6_of hR
          have zR := lt_of hR
          have HB : Hid (But [] w w10) := Lib.hid ((HB.out).trans hb10 (by simp))
          have HA := Lib.hid hA
          have HX := Lib.hid hX
          have HR := Lib.hid hR
          clear hA hX hR hb10
          go_upto_region 4 with (fail)
          generalize hw : World.alloc w10 _ = w11
          have hA : w11.heap[w.heap.size]? = some (.cells #[.int .u64 v, .int .u64 m, .int .u64 lo, .int .u64 hi, .int .i64 sl, .int .i64 sh] 28) := by rw [← hw]; exact al_keep HA.out _
          have hX : w11.heap[w.heap.size + 1]? = some (.cells #[.int .u64 xv, .int .u64 xm, .int .u64 xlo, .int .u64 xhi, .int .i64 xsl, .int .i64 xsh] 28) := by rw [← hw]; exact al_keep HX.out _
          have hR : w11.heap[w.heap.size + 1 + 1]? = some (.cells #[.int .u64 0, .int .u64 0, .int .u64 0, .int .u64 0, .int .i64 0, .int .i64 0] 28) := by rw [← hw]; exact al_keep HR.out _
          have hT : w11.heap[w10.heap.size]? = some (.cells #[.int .u64 tv, .int .u64 tm] 24) := by rw [← hw]; exact al_at _ _
          have HB : Hid (But [] w w11) := Lib.hid (by rw [← hw]; exact HB.out.alloc _)
          clear hw
          clear zA zX zR cA0 cA1 cA2 cA3 cA4 cA5 cX0 cX1 cX2 cX3 cX4 cX5 cR0 cR1 cR2 cR3 cR4 cR5 fR0 fR1 fR2 fR3 fR4 fR5
          obtain ⟨cA0, cA1, cA2, cA3, cA4, cA5⟩ := c6_of hA
          have zA := lt_of hA
          obtain ⟨cX0, cX1, cX2, cX3, cX4, cX5⟩ := c6_of hX
          have zX := lt_of hX
          obtain ⟨cR0, cR1, cR2, cR3, cR4, cR5⟩ := c6_of hR
          obtain ⟨fR0, fR1, fR2, fR3, fR4, fR5⟩ := f6_of hR
          have zR := lt_of hR
          obtain ⟨cT0, cT1⟩ := c2_of hT
          have zT := lt_of hT
          have HA := Lib.hid hA
          have HX := Lib.hid hX
          have HR := Lib.hid hR
          have HT := Lib.hid hT
          clear hA hX hR hT
          go_wp2_with fail
          refine (G3.out _).mono ?_
          rintro e w12 ⟨rfl, hb12⟩
          have hA : w12.heap[w.heap.size]? = some (.cells #[.int .u64 v, .int .u64 m, .int .u64 lo, .int .u64 hi, .int .i64 sl, .int .i64 sh] 28) := hb12.heap (HA.out) (by simp)
          have hX : w12.heap[w.heap.size + 1]? = some (.cells #[.int .u64 xv, .int .u64 xm, .int .u64 xlo, .int .u64 xhi, .int .i64 xsl, .int .i64 xsh] 28) := hb12.heap (HX.out) (by simp)
          have hR : w12.heap[w.heap.size + 1 + 1]? = some (.cells #[.int .u64 0, .int .u64 0, .int .u64 0, .int .u64 0, .int .i64 0, .int .i64 0] 28) := hb12.heap (HR.out) (by simp)
          have hT : w12.heap[w10.heap.size]? = some (.cells #[.int .u64 tv, .int .u64 tm] 24) := hb12.heap (HT.out) (by simp)
          clear zA zX zR zT
          clear cA0 cA1 cA2 cA3 cA4 cA5 cX0 cX1 cX2 cX3 cX4 cX5 cR0 cR1 cR2 cR3 cR4 cR5 cT0 cT1
          clear fR0 fR1 fR2 fR3 fR4 fR5
          obtain ⟨cA0, cA1, cA2, cA3, cA4, cA5⟩ := c6_of hA
          have zA := lt_of hA
          obtain ⟨cX0, cX1, cX2, cX3, cX4, cX5⟩ := c6_of hX
          have zX := lt_of hX
          obtain ⟨cR0, cR1, cR2, cR3, cR4, cR5⟩ := c6_of hR
          obtain ⟨fR0, fR1, fR2, fR3, fR4, fR5⟩ := f6_of hR
          have zR := lt_of hR
          obtain ⟨cT0, cT1⟩ := c2_of hT
          have zT := lt_of hT
          have HB : Hid (But [] w w12) := Lib.hid ((HB.out).trans hb12 (by simp))
          have HA := Lib.hid hA
          have HX := Lib.hid hX
          have HR := Lib.hid hR
          have HT := Lib.hid hT
          clear hA hX hR hT hb12
          go_upto_region 5 with (fail)
          generalize hw : World.alloc w12 _ = w13
          have hA : w13.heap[w.heap.size]? = some (.cells #[.int .u64 v, .int .u64 m, .int .u64 lo, .int .u64 hi, .int .i64 sl, .int .i64 sh] 28) := by rw [← hw]; exact al_keep HA.out _
          have hX : w13.heap[w.heap.size + 1]? = some (.cells #[.int .u64 xv, .int .u64 xm, .int .u64 xlo, .int .u64 xhi, .int .i64 xsl, .int .i64 xsh] 28) := by rw [← hw]; exact al_keep HX.out _
          have hR : w13.heap[w.heap.size + 1 + 1]? = some (.cells #[.int .u64 0, .int .u64 0, .int .u64 0, .int .u64 0, .int .i64 0, .int .i64 0] 28) := by rw [← hw]; exact al_keep HR.out _
          have hT : w13.heap[w10.heap.size]? = some (.cells #[.int .u64 tv, .int .u64 tm] 24) := by rw [← hw]; exact al_keep HT.out _
          have hV : w13.heap[w12.heap.size]? = some (.cells #[.int .u64 ml, .int .u64 mh, .int .i64 ms, .int .i64 mt] 26) := by rw [← hw]; exact al_at _ _
          have HB : Hid (But [] w w13) := Lib.hid (by rw [← hw]; exact HB.out.alloc _)
          clear hw
          clear zA zX zR zT cA0 cA1 cA2 cA3 cA4 cA5 cX0 cX1 cX2 cX3 cX4 cX5 cR0 cR1 cR2 cR3 cR4 cR5 cT0 cT1 fR0 fR1 fR2 fR3 fR4 fR5
          obtain ⟨cA0, cA1, cA2, cA3, cA4, cA5⟩ := c6_of hA
          have zA := lt_of hA
          obtain ⟨cX0, cX1, cX2, cX3, cX4, cX5⟩ := c6_of hX
          have zX := lt_of hX
          obtain ⟨cR0, cR1, cR2, cR3, cR4, cR5⟩ := c6_of hR
          obtain ⟨fR0, fR1, fR2, fR3, fR4, fR5⟩ := f6_of hR
          have zR := lt_of hR
          obtain ⟨cT0, cT1⟩ := c2_of hT
          have zT := lt_of hT
          obtain ⟨cV0, cV1, cV2, cV3⟩ := c4_of hV
          have zV := lt_of hV
          have HA := Lib.hid hA
          have HX := Lib.hid hX
          have HR := Lib.hid hR
          have HT := Lib.hid hT
          have HV := Lib.hid hV
          clear hA hX hR hT hV
          go_wp2_with fail
          exact bodyPost_ret (v := .tuple #[.agg #[.int .u64 0, .int .u64 0, .int .u64 0, .int .u64 0, .int .i64 0, .int .i64 0], .bool false]) (by simp [results, Try.results69, go_sem, cR0, cR1, cR2, cR3, cR4, cR5]) rfl (RulePost.mk (zeroSc) (by rw [HE.out]; rfl) (fun d hd => by rw [HE.out] at hd; cases hd) (by
    repeat (first | with_reducible exact HB.out | with_reducible refine But.alloc ?_ _ | (with_reducible refine But.setCell ?_ (.inr ?_) _; rotate_left; (simp only []; omega)))))
        | true =>
          rw [e3] at G3
          have hs2 : spMeet ⟨lo, hi, sl, sh⟩ ⟨xlo, xhi, xsl, xsh⟩ = ⟨ml, mh, ms, mt⟩ := by have h := HSV.out; unfold spMeetV at h; rw [e3, if_pos rfl] at h; exact h.symm
          have HE0 : scMeetT ⟨⟨v, m⟩, ⟨lo, hi, sl, sh⟩⟩ ⟨⟨xv, xm⟩, ⟨xlo, xhi, xsl, xsh⟩⟩ = ofT ⟨⟨tv, tm⟩, ⟨ml, mh, ms, mt⟩⟩ := by unfold scMeetT; rw [if_pos (by simp [e0, e1, e2, e3])]; simp only [← HT.out, hs2]
          have hrg : Rg ⟨⟨tv, tm⟩, ⟨ml, mh, ms, mt⟩⟩ := by have h := HMR.out e2; simp only [← HT.out, hs2] at h; exact h
          obtain ⟨⟨⟨gv, gm⟩, ⟨gl, gh, gi, gj⟩⟩, hg⟩ : ∃ g : Sc, (ofT ⟨⟨tv, tm⟩, ⟨ml, mh, ms, mt⟩⟩).getD zeroSc = g := ⟨_, rfl⟩
          obtain ⟨gb, hgb⟩ : ∃ b, (ofT ⟨⟨tv, tm⟩, ⟨ml, mh, ms, mt⟩⟩).isSome = b := ⟨_, rfl⟩
          have G4 := Lib.hid (fun w => r19tog_v tv tm ml mh gv gm gl gh ms mt gi gj gb hrg hg hgb w)
          have HE := Lib.hid HE0
          have HG := Lib.hid hg
          have HGB := Lib.hid hgb
          clear hg hgb hrg HE0 hs2
          clear e0 e1 e2 e3 HT HSV HMR
          go_enter Try.func69, Try.ntmps69
          go_wp2_with fail
          refine (G0.out _).mono ?_
          rintro e w8 ⟨rfl, hb8⟩
          have hA : w8.heap[w.heap.size]? = some (.cells #[.int .u64 v, .int .u64 m, .int .u64 lo, .int .u64 hi, .int .i64 sl, .int .i64 sh] 28) := hb8.heap (by repeat (first | (with_reducible refine al_eq _ _ _ ?_; (simp only [size_alloc]; done)) | with_reducible refine al_keep ?_ _ | with_reducible refine dr_keep ?_)) (by simp)
          have hX : w8.heap[w.heap.size + 1]? = some (.cells #[.int .u64 xv, .int .u64 xm, .int .u64 xlo, .int .u64 xhi, .int .i64 xsl, .int .i64 xsh] 28) := hb8.heap (by repeat (first | (with_reducible refine al_eq _ _ _ ?_; (simp only [size_alloc]; done)) | with_reducible refine al_keep ?_ _ | with_reducible refine dr_keep ?_)) (by simp)
          have hR : w8.heap[w.heap.size + 1 + 1]? = some (.cells #[.int .u64 0, .int .u64 0, .int .u64 0, .int .u64 0, .int .i64 0, .int .i64 0] 28) := hb8.heap (by repeat (first | (with_reducible refine al_eq _ _ _ ?_; (simp only [size_alloc]; done)) | with_reducible refine al_keep ?_ _ | with_reducible refine dr_keep ?_)) (by simp)
          obtain ⟨cA0, cA1, cA2, cA3, cA4, cA5⟩ := c6_of hA
          have zA := lt_of hA
          obtain ⟨cX0, cX1, cX2, cX3, cX4, cX5⟩ := c6_of hX
          have zX := lt_of hX
          obtain ⟨cR0, cR1, cR2, cR3, cR4, cR5⟩ := c6_of hR
          obtain ⟨fR0, fR1, fR2, fR3, fR4, fR5⟩ := f6_of hR
          have zR := lt_of hR
          have HB : Hid (But [] w w8) := Lib.hid ((by repeat (first | with_reducible exact But.refl _ _ | with_reducible refine But.drew ?_ | with_reducible refine But.alloc ?_ _) : But [] w _).trans hb8 (by simp))
          have HA := Lib.hid hA
          have HX := Lib.hid hX
          have HR := Lib.hid hR
          clear hA hX hR hb8
          go_wp2_with fail
          refine (G1.out _).mono ?_
          rintro e w9 ⟨rfl, hb9⟩
          have hA : w9.heap[w.heap.size]? = some (.cells #[.int .u64 v, .int .u64 m, .int .u64 lo, .int .u64 hi, .int .i64 sl, .int .i64 sh] 28) := hb9.heap (HA.out) (by simp)
          have hX : w9.heap[w.heap.size + 1]? = some (.cells #[.int .u64 xv, .int .u64 xm, .int .u64 xlo, .int .u64 xhi, .int .i64 xsl, .int .i64 xsh] 28) := hb9.heap (HX.out) (by simp)
          have hR : w9.heap[w.heap.size + 1 + 1]? = some (.cells #[.int .u64 0, .int .u64 0, .int .u64 0, .int .u64 0, .int .i64 0, .int .i64 0] 28) := hb9.heap (HR.out) (by simp)
          clear zA zX zR
          clear cA0 cA1 cA2 cA3 cA4 cA5 cX0 cX1 cX2 cX3 cX4 cX5 cR0 cR1 cR2 cR3 cR4 cR5
          clear fR0 fR1 fR2 fR3 fR4 fR5
          obtain ⟨cA0, cA1, cA2, cA3, cA4, cA5⟩ := c6_of hA
          have zA := lt_of hA
          obtain ⟨cX0, cX1, cX2, cX3, cX4, cX5⟩ := c6_of hX
          have zX := lt_of hX
          obtain ⟨cR0, cR1, cR2, cR3, cR4, cR5⟩ := c6_of hR
          obtain ⟨fR0, fR1, fR2, fR3, fR4, fR5⟩ := f6_of hR
          have zR := lt_of hR
          have HB : Hid (But [] w w9) := Lib.hid ((HB.out).trans hb9 (by simp))
          have HA := Lib.hid hA
          have HX := Lib.hid hX
          have HR := Lib.hid hR
          clear hA hX hR hb9
          go_wp2_with fail
          refine (G2.out _).mono ?_
          rintro e w10 ⟨rfl, hb10⟩
          have hA : w10.heap[w.heap.size]? = some (.cells #[.int .u64 v, .int .u64 m, .int .u64 lo, .int .u64 hi, .int .i64 sl, .int .i64 sh] 28) := hb10.heap (HA.out) (by simp)
          have hX : w10.heap[w.heap.size + 1]? = some (.cells #[.int .u64 xv, .int .u64 xm, .int .u64 xlo, .int .u64 xhi, .int .i64 xsl, .int .i64 xsh] 28) := hb10.heap (HX.out) (by simp)
          have hR : w10.heap[w.heap.size + 1 + 1]? = some (.cells #[.int .u64 0, .int .u64 0, .int .u64 0, .int .u64 0, .int .i64 0, .int .i64 0] 28) := hb10.heap (HR.out) (by simp)
          clear zA zX zR
          clear cA0 cA1 cA2 cA3 cA4 cA5 cX0 cX1 cX2 cX3 cX4 cX5 cR0 cR1 cR2 cR3 cR4 cR5
          clear fR0 fR1 fR2 fR3 fR4 fR5
          obtain ⟨cA0, cA1, cA2, cA3, cA4, cA5⟩ := c6_of hA
          have zA := lt_of hA
          obtain ⟨cX0, cX1, cX2, cX3, cX4, cX5⟩ := c6_of hX
          have zX := lt_of hX
          obtain ⟨cR0, cR1, cR2, cR3, cR4, cR5⟩ := c6_of hR
          obtain ⟨fR0, fR1, fR2, fR3, fR4, fR5⟩ := f6_of hR
          have zR := lt_of hR
          have HB : Hid (But [] w w10) := Lib.hid ((HB.out).trans hb10 (by simp))
          have HA := Lib.hid hA
          have HX := Lib.hid hX
          have HR := Lib.hid hR
          clear hA hX hR hb10
          go_upto_region 4 with (fail)
          generalize hw : World.alloc w10 _ = w11
          have hA : w11.heap[w.heap.size]? = some (.cells #[.int .u64 v, .int .u64 m, .int .u64 lo, .int .u64 hi, .int .i64 sl, .int .i64 sh] 28) := by rw [← hw]; exact al_keep HA.out _
          have hX : w11.heap[w.heap.size + 1]? = some (.cells #[.int .u64 xv, .int .u64 xm, .int .u64 xlo, .int .u64 xhi, .int .i64 xsl, .int .i64 xsh] 28) := by rw [← hw]; exact al_keep HX.out _
          have hR : w11.heap[w.heap.size + 1 + 1]? = some (.cells #[.int .u64 0, .int .u64 0, .int .u64 0, .int .u64 0, .int .i64 0, .int .i64 0] 28) := by rw [← hw]; exact al_keep HR.out _
          have hT : w11.heap[w10.heap.size]? = some (.cells #[.int .u64 tv, .int .u64 tm] 24) := by rw [← hw]; exact al_at _ _
          have HB : Hid (But [] w w11) := Lib.hid (by rw [← hw]; exact HB.out.alloc _)
          clear hw
          clear zA zX zR cA0 cA1 cA2 cA3 cA4 cA5 cX0 cX1 cX2 cX3 cX4 cX5 cR0 cR1 cR2 cR3 cR4 cR5 fR0 fR1 fR2 fR3 fR4 fR5
          obtain ⟨cA0, cA1, cA2, cA3, cA4, cA5⟩ := c6_of hA
          have zA := lt_of hA
          obtain ⟨cX0, cX1, cX2, cX3, cX4, cX5⟩ := c6_of hX
          have zX := lt_of hX
          obtain ⟨cR0, cR1, cR2, cR3, cR4, cR5⟩ := c6_of hR
          obtain ⟨fR0, fR1, fR2, fR3, fR4, fR5⟩ := f6_of hR
          have zR := lt_of hR
          obtain ⟨cT0, cT1⟩ := c2_of hT
          have zT := lt_of hT
          have HA := Lib.hid hA
          have HX := Lib.hid hX
          have HR := Lib.hid hR
          have HT := Lib.hid hT
          clear hA hX hR hT
          go_wp2_with fail
          refine (G3.out _).mono ?_
          rintro e w12 ⟨rfl, hb12⟩
          have hA : w12.heap[w.heap.size]? = some (.cells #[.int .u64 v, .int .u64 m, .int .u64 lo, .int .u64 hi, .int .i64 sl, .int .i64 sh] 28) := hb12.heap (HA.out) (by simp)
          have hX : w12.heap[w.heap.size + 1]? = some (.cells #[.int .u64 xv, .int .u64 xm, .int .u64 xlo, .int .u64 xhi, .int .i64 xsl, .int .i64 xsh] 28) := hb12.heap (HX.out) (by simp)
          have hR : w12.heap[w.heap.size + 1 + 1]? = some (.cells #[.int .u64 0, .int .u64 0, .int .u64 0, .int .u64 0, .int .i64 0, .int .i64 0] 28) := hb12.heap (HR.out) (by simp)
          have hT : w12.heap[w10.heap.size]? = some (.cells #[.int .u64 tv, .int .u64 tm] 24) := hb12.heap (HT.out) (by simp)
          clear zA zX zR zT
          clear cA0 cA1 cA2 cA3 cA4 cA5 cX0 cX1 cX2 cX3 cX4 cX5 cR0 cR1 cR2 cR3 cR4 cR5 cT0 cT1
          clear fR0 fR1 fR2 fR3 fR4 fR5
          obtain ⟨cA0, cA1, cA2, cA3, cA4, cA5⟩ := c6_of hA
          have zA := lt_of hA
          obtain ⟨cX0, cX1, cX2, cX3, cX4, cX5⟩ := c6_of hX
          have zX := lt_of hX
          obtain ⟨cR0, cR1, cR2, cR3, cR4, cR5⟩ := c6_of hR
          obtain ⟨fR0, fR1, fR2, fR3, fR4, fR5⟩ := f6_of hR
          have zR := lt_of hR
          obtain ⟨cT0, cT1⟩ := c2_of hT
          have zT := lt_of hT
          have HB : Hid (But [] w w12) := Lib.hid ((HB.out).trans hb12 (by simp))
          have HA := Lib.hid hA
          have HX := Lib.hid hX
          have HR := Lib.hid hR
          have HT := Lib.hid hT
          clear hA hX hR hT hb12
          go_upto_region 5 with (fail)
          generalize hw : World.alloc w12 _ = w13
          have hA : w13.heap[w.heap.size]? = some (.cells #[.int .u64 v, .int .u64 m, .int .u64 lo, .int .u64 hi, .int .i64 sl, .int .i64 sh] 28) := by rw [← hw]; exact al_keep HA.out _
          have hX : w13.heap[w.heap.size + 1]? = some (.cells #[.int .u64 xv, .int .u64 xm, .int .u64 xlo, .int .u64 xhi, .int .i64 xsl, .int .i64 xsh] 28) := by rw [← hw]; exact al_keep HX.out _
          have hR : w13.heap[w.heap.size + 1 + 1]? = some (.cells #[.int .u64 0, .int .u64 0, .int .u64 0, .int .u64 0, .int .i64 0, .int .i64 0] 28) := by rw [← hw]; exact al_keep HR.out _
          have hT : w13.heap[w10.heap.size]? = some (.cells #[.int .u64 tv, .int .u64 tm] 24) := by rw [← hw]; exact al_keep HT.out _
          have hV : w13.heap[w12.heap.size]? = some (.cells #[.int .u64 ml, .int .u64 mh, .int .i64 ms, .int .i64 mt] 26) := by rw [← hw]; exact al_at _ _
          have HB : Hid (But [] w w13) := Lib.hid (by rw [← hw]; exact HB.out.alloc _)
          clear hw
          clear zA zX zR zT cA0 cA1 cA2 cA3 cA4 cA5 cX0 cX1 cX2 cX3 cX4 cX5 cR0 cR1 cR2 cR3 cR4 cR5 cT0 cT1 fR0 fR1 fR2 fR3 fR4 fR5
          obtain ⟨cA0, cA1, cA2, cA3, cA4, cA5⟩ := c6_of hA
          have zA := lt_of hA
          obtain ⟨cX0, cX1, cX2, cX3, cX4, cX5⟩ := c6_of hX
          have zX := lt_of hX
          obtain ⟨cR0, cR1, cR2, cR3, cR4, cR5⟩ := c6_of hR
          obtain ⟨fR0, fR1, fR2, fR3, fR4, fR5⟩ := f6_of hR
          have zR := lt_of hR
          obtain ⟨cT0, cT1⟩ := c2_of hT
          have zT := lt_of hT
          obtain ⟨cV0, cV1, cV2, cV3⟩ := c4_of hV
          have zV := lt_of hV
          have HA := Lib.hid hA
          have HX := Lib.hid hX
          have HR := Lib.hid hR
          have HT := Lib.hid hT
          have HV := Lib.hid hV
          clear hA hX hR hT hV
          go_wp2_with fail
          refine (G4.out _).mono ?_
          rintro e w14 ⟨rfl, hb14⟩
          have hR : w14.heap[w.heap.size + 1 + 1]? = some (.cells #[.int .u64 0, .int .u64 0, .int .u64 0, .int .u64 0, .int .i64 0, .int .i64 0] 28) := hb14.heap (HR.out) (by simp)
          clear zA zX zR zT zV
          clear cA0 cA1 cA2 cA3 cA4 cA5 cX0 cX1 cX2 cX3 cX4 cX5 cR0 cR1 cR2 cR3 cR4 cR5 cT0 cT1 cV0 cV1 cV2 cV3
          clear fR0 fR1 fR2 fR3 fR4 fR5
          obtain ⟨cR0, cR1, cR2, cR3, cR4, cR5⟩ := c6_of hR
          obtain ⟨fR0, fR1, fR2, fR3, fR4, fR5⟩ := f6_of hR
          have zR := lt_of hR
          have HB : Hid (But [] w w14) := Lib.hid ((HB.out).trans hb14 (by simp))
          have HR := Lib.hid hR
          clear hR hb14
          go_wp2_with fail
          exact bodyPost_ret (v := .tuple #[.agg #[.int .u64 gv, .int .u64 gm, .int .u64 gl, .int .u64 gh, .int .i64 gi, .int .i64 gj], .bool gb]) (by simp [results, Try.results69, go_sem, cR0, cR1, cR2, cR3, cR4, cR5]) rfl (RulePost.mk (⟨⟨gv, gm⟩, ⟨gl, gh, gi, gj⟩⟩) (by rw [HE.out, HGB.out]; rfl) (fun d hd => by rw [HE.out] at hd; rw [← HG.out, hd]; rfl) (by
    repeat (first | with_reducible exact HB.out | with_reducible refine But.alloc ?_ _ | (with_reducible refine But.setCell ?_ (.inr ?_) _; rotate_left; (simp only []; omega)))))
set_option maxRecDepth 100000 in
set_option maxHeartbeats 4000000 in
theorem r21of0 (v m lo hi : Nat) (sl sh : Int) (w : World) (hr : Rg ⟨⟨v, m⟩, ⟨lo, hi, sl, sh⟩⟩) : Calls Try.prog 109 #[.agg #[.int .u64 v, .int .u64 m], .agg #[.int .u64 lo, .int .u64 hi, .int .i64 sl, .int .i64 sh]] w fun e w' => e = .returned (.tuple #[((ofT ⟨⟨v, m⟩, ⟨lo, hi, sl, sh⟩⟩).getD zeroSc).val, .bool (ofT ⟨⟨v, m⟩, ⟨lo, hi, sl, sh⟩⟩).isSome]) ∧ But [] w w' := by
  have G0 := Lib.hid (fun w => r18Right lo hi sl sh w)
  cases e0 : spR ⟨lo, hi, sl, sh⟩ with
  | false =>
    rw [e0] at G0
    have HE : Hid (ofT ⟨⟨v, m⟩, ⟨lo, hi, sl, sh⟩⟩ = none) := Lib.hid (by simp [ofT, e0])
    clear e0 hr
    go_enter Try.func109, Try.ntmps109
    go_wp2_with fail
    refine (G0.out _).mono ?_
    rintro e w8 ⟨rfl, hb8⟩
    have hT : w8.heap[w.heap.size]? = some (.cells #[.int .u64 v, .int .u64 m] 24) := hb8.heap (by repeat (first | (with_reducible refine al_eq _ _ _ ?_; (simp only [size_alloc]; done)) | with_reducible refine al_keep ?_ _ | with_reducible refine dr_keep ?_)) (by simp)
    have hS : w8.heap[w.heap.size + 1]? = some (.cells #[.int .u64 lo, .int .u64 hi, .int .i64 sl, .int .i64 sh] 26) := hb8.heap (by repeat (first | (with_reducible refine al_eq _ _ _ ?_; (simp only [size_alloc]; done)) | with_reducible refine al_keep ?_ _ | with_reducible refine dr_keep ?_)) (by simp)
    have hR : w8.heap[w.heap.size + 1 + 1]? = some (.cells #[.int .u64 0, .int .u64 0, .int .u64 0, .int .u64 0, .int .i64 0, .int .i64 0] 28) := hb8.heap (by repeat (first | (with_reducible refine al_eq _ _ _ ?_; (simp only [size_alloc]; done)) | with_reducible refine al_keep ?_ _ | with_reducible refine dr_keep ?_)) (by simp)
    obtain ⟨cT0, cT1⟩ := c2_of hT
    have zT := lt_of hT
    obtain ⟨cS0, cS1, cS2, cS3⟩ := c4_of hS
    have zS := lt_of hS
    obtain ⟨cR0, cR1, cR2, cR3, cR4, cR5⟩ := c6_of hR
    obtain ⟨fR0, fR1, fR2, fR3, fR4, fR5⟩ := f6_of hR
    have zR := lt_of hR
    have HB : Hid (But [] w w8) := Lib.hid ((by repeat (first | with_reducible exact But.refl _ _ | with_reducible refine But.drew ?_ | with_reducible refine But.alloc ?_ _) : But [] w _).trans hb8 (by simp))
    have HT := Lib.hid hT
    have HS := Lib.hid hS
    have HR := Lib.hid hR
    clear hT hS hR hb8
    go_wp2_with fail
    exact bodyPost_ret (v := .tuple #[.agg #[.int .u64 0, .int .u64 0, .int .u64 0, .int .u64 0, .int .i64 0, .int .i64 0], .bool false]) (by simp [results, Try.results109, go_sem, cR0, cR1, cR2, cR3, cR4, cR5]) rfl ⟨by rw [HE.out]; rfl, by
    repeat (first | with_reducible exact HB.out | with_reducible refine But.alloc ?_ _ | (with_reducible refine But.setCell ?_ (.inr ?_) _; rotate_left; (simp only []; omega)))⟩
  | true =>
    rw [e0] at G0
    obtain ⟨⟨⟨gv, gm⟩, ⟨gl, gh, gi, gj⟩⟩, hg⟩ : ∃ g : Sc, (ofT ⟨⟨v, m⟩, ⟨lo, hi, sl, sh⟩⟩).getD zeroSc = g := ⟨_, rfl⟩
    obtain ⟨gb, hgb⟩ : ∃ b, (ofT ⟨⟨v, m⟩, ⟨lo, hi, sl, sh⟩⟩).isSome = b := ⟨_, rfl⟩
    have G1 := Lib.hid (fun w => r19Of_v v m lo hi gv gm gl gh sl sh gi gj gb hr hg hgb w)
    have HG := Lib.hid hg
    have HGB := Lib.hid hgb
    clear hr hg hgb e0
    go_enter Try.func109, Try.ntmps109
    go_wp2_with fail
    refine (G0.out _).mono ?_
    rintro e w8 ⟨rfl, hb8⟩
    have hT : w8.heap[w.heap.size]? = some (.cells #[.int .u64 v, .int .u64 m] 24) := hb8.heap (by repeat (first | (with_reducible refine al_eq _ _ _ ?_; (simp only [size_alloc]; done)) | with_reducible refine al_keep ?_ _ | with_reducible refine dr_keep ?_)) (by simp)
    have hS : w8.heap[w.heap.size + 1]? = some (.cells #[.int .u64 lo, .int .u64 hi, .int .i64 sl, .int .i64 sh] 26) := hb8.heap (by repeat (first | (with_reducible refine al_eq _ _ _ ?_; (simp only [size_alloc]; done)) | with_reducible refine al_keep ?_ _ | with_reducible refine dr_keep ?_)) (by simp)
    have hR : w8.heap[w.heap.size + 1 + 1]? = some (.cells #[.int .u64 0, .int .u64 0, .int .u64 0, .int .u64 0, .int .i64 0, .int .i64 0] 28) := hb8.heap (by repeat (first | (with_reducible refine al_eq _ _ _ ?_; (simp only [size_alloc]; done)) | with_reducible refine al_keep ?_ _ | with_reducible refine dr_keep ?_)) (by simp)
    obtain ⟨cT0, cT1⟩ := c2_of hT
    have zT := lt_of hT
    obtain ⟨cS0, cS1, cS2, cS3⟩ := c4_of hS
    have zS := lt_of hS
    obtain ⟨cR0, cR1, cR2, cR3, cR4, cR5⟩ := c6_of hR
    obtain ⟨fR0, fR1, fR2, fR3, fR4, fR5⟩ := f6_of hR
    have zR := lt_of hR
    have HB : Hid (But [] w w8) := Lib.hid ((by repeat (first | with_reducible exact But.refl _ _ | with_reducible refine But.drew ?_ | with_reducible refine But.alloc ?_ _) : But [] w _).trans hb8 (by simp))
    have HT := Lib.hid hT
    have HS := Lib.hid hS
    have HR := Lib.hid hR
    clear hT hS hR hb8
    go_wp2_with fail
    refine (G1.out _).mono ?_
    rintro e w9 ⟨rfl, hb9⟩
    have hR : w9.heap[w.heap.size + 1 + 1]? = some (.cells #[.int .u64 0, .int .u64 0, .int .u64 0, .int .u64 0, .int .i64 0, .int .i64 0] 28) := hb9.heap (HR.out) (by simp)
    clear zT zS zR
    clear cT0 cT1 cS0 cS1 cS2 cS3 cR0 cR1 cR2 cR3 cR4 cR5
    clear fR0 fR1 fR2 fR3 fR4 fR5
    obtain ⟨cR0, cR1, cR2, cR3, cR4, cR5⟩ := c6_of hR
    obtain ⟨fR0, fR1, fR2, fR3, fR4, fR5⟩ := f6_of hR
    have zR := lt_of hR
    have HB : Hid (But [] w w9) := Lib.hid ((HB.out).trans hb9 (by simp))
    have HR := Lib.hid hR
    clear hR hb9
    go_wp2_with fail
    exact bodyPost_ret (v := .tuple #[.agg #[.int .u64 gv, .int .u64 gm, .int .u64 gl, .int .u64 gh, .int .i64 gi, .int .i64 gj], .bool gb]) (by simp [results, Try.results109, go_sem, cR0, cR1, cR2, cR3, cR4, cR5]) rfl ⟨by rw [HG.out, HGB.out]; rfl, by
    repeat (first | with_reducible exact HB.out | with_reducible refine But.alloc ?_ _ | (with_reducible refine But.setCell ?_ (.inr ?_) _; rotate_left; (simp only []; omega)))⟩
theorem r21of_v (v m lo hi gv gm gl gh : Nat) (sl sh gi gj : Int) (gb : Bool) (hr : Rg ⟨⟨v, m⟩, ⟨lo, hi, sl, sh⟩⟩) (hg : (ofT ⟨⟨v, m⟩, ⟨lo, hi, sl, sh⟩⟩).getD zeroSc = ⟨⟨gv, gm⟩, ⟨gl, gh, gi, gj⟩⟩) (hb : (ofT ⟨⟨v, m⟩, ⟨lo, hi, sl, sh⟩⟩).isSome = gb) (w : World) : Calls Try.prog 109 #[.agg #[.int .u64 v, .int .u64 m], .agg #[.int .u64 lo, .int .u64 hi, .int .i64 sl, .int .i64 sh]] w fun e w' => e = .returned (.tuple #[.agg #[.int .u64 gv, .int .u64 gm, .int .u64 gl, .int .u64 gh, .int .i64 gi, .int .i64 gj], .bool gb]) ∧ But [] w w' := by
  have h := r21of0 v m lo hi sl sh w hr
  rw [hg, hb] at h
  exact h
end Go.Proofs.Ytmbmmcippglfoaa.M
