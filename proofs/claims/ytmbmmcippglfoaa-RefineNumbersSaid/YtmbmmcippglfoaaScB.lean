/-
  scalar.One, Has, Leq.
-/
import Derived.Test.YtmbmmcippglfoaaScA
import Derived.Test.YtmbmmcippglfoaaSpC
namespace Go.Proofs.Ytmbmmcippglfoaa.M
open Go.RowKit Go.Shelf
set_option linter.unusedVariables false
set_option linter.unusedSectionVars false
set_option linter.unusedSimpArgs false

set_option maxRecDepth 100000 in
set_option maxHeartbeats 4000000 in
theorem scOne0 (v m lo hi : Nat) (sl sh : Int) (w : World) (hr : Rg ⟨⟨v, m⟩, ⟨lo, hi, sl, sh⟩⟩) : Calls Try.prog 85 #[.agg #[.int .u64 v, .int .u64 m, .int .u64 lo, .int .u64 hi, .int .i64 sl, .int .i64 sh]] w fun e w' => e = .returned (.tuple #[.int .u64 ((oneT ⟨⟨v, m⟩, ⟨lo, hi, sl, sh⟩⟩).getD 0), .bool (oneT ⟨⟨v, m⟩, ⟨lo, hi, sl, sh⟩⟩).isSome]) ∧ But [] w w' := by
  have G0 := Lib.hid (fun w => scRight0 v m lo hi sl sh w hr)
  clear hr
  have G1 : Hid True := Lib.hid trivial
  cases e0 : rightB ⟨⟨v, m⟩, ⟨lo, hi, sl, sh⟩⟩ with
  | false =>
    rw [e0] at G0
    have HE : Hid (oneT ⟨⟨v, m⟩, ⟨lo, hi, sl, sh⟩⟩ = none) := Lib.hid (by simp [oneT, e0])
    clear e0
    go_enter Try.func85, Try.ntmps85
    go_wp2_with fail
    refine (G0.out _).mono ?_
    rintro e w8 ⟨rfl, hb8⟩
    have hA : w8.heap[w.heap.size]? = some (.cells #[.int .u64 v, .int .u64 m, .int .u64 lo, .int .u64 hi, .int .i64 sl, .int .i64 sh] 28) := hb8.heap (by repeat (first | (with_reducible refine al_eq _ _ _ ?_; (simp only [size_alloc]; done)) | with_reducible refine al_keep ?_ _ | with_reducible refine dr_keep ?_)) (by simp)
    obtain ⟨cA0, cA1, cA2, cA3, cA4, cA5⟩ := c6_of hA
    have zA := lt_of hA
    have HB : Hid (But [] w w8) := Lib.hid ((by repeat (first | with_reducible exact But.refl _ _ | with_reducible refine But.drew ?_ | with_reducible refine But.alloc ?_ _) : But [] w _).trans hb8 (by simp))
    have HA := Lib.hid hA
    clear hA hb8
    go_wp2_with fail
    go_ret2
    exact ⟨(by rw [HE.out]; first | done | rfl), HB.out⟩
  | true =>
    rw [e0] at G0
    cases e1 : decide (lo = hi) with
    | false =>
      have HE : Hid (oneT ⟨⟨v, m⟩, ⟨lo, hi, sl, sh⟩⟩ = none) := Lib.hid (by have := of_decide_eq_false e1; simp [oneT, e0, this])
      have hn : ((lo : Int) != (hi : Int)) = true := by have := of_decide_eq_false e1; simp; omega
      clear e0 e1
      go_enter Try.func85, Try.ntmps85
      go_wp2_with fail
      refine (G0.out _).mono ?_
      rintro e w8 ⟨rfl, hb8⟩
      have hA : w8.heap[w.heap.size]? = some (.cells #[.int .u64 v, .int .u64 m, .int .u64 lo, .int .u64 hi, .int .i64 sl, .int .i64 sh] 28) := hb8.heap (by repeat (first | (with_reducible refine al_eq _ _ _ ?_; (simp only [size_alloc]; done)) | with_reducible refine al_keep ?_ _ | with_reducible refine dr_keep ?_)) (by simp)
      obtain ⟨cA0, cA1, cA2, cA3, cA4, cA5⟩ := c6_of hA
      have zA := lt_of hA
      have HB : Hid (But [] w w8) := Lib.hid ((by repeat (first | with_reducible exact But.refl _ _ | with_reducible refine But.drew ?_ | with_reducible refine But.alloc ?_ _) : But [] w _).trans hb8 (by simp))
      have HA := Lib.hid hA
      clear hA hb8
      go_wp2_with fail
      go_ret2
      exact ⟨(by rw [HE.out]; first | done | rfl), HB.out⟩
    | true =>
      have HE : Hid (oneT ⟨⟨v, m⟩, ⟨lo, hi, sl, sh⟩⟩ = some lo) := Lib.hid (by have h := of_decide_eq_true e1; subst h; simp [oneT, e0])
      have hn : ((lo : Int) != (hi : Int)) = false := by have := of_decide_eq_true e1; simp; omega
      clear e0 e1
      go_enter Try.func85, Try.ntmps85
      go_wp2_with fail
      refine (G0.out _).mono ?_
      rintro e w8 ⟨rfl, hb8⟩
      have hA : w8.heap[w.heap.size]? = some (.cells #[.int .u64 v, .int .u64 m, .int .u64 lo, .int .u64 hi, .int .i64 sl, .int .i64 sh] 28) := hb8.heap (by repeat (first | (with_reducible refine al_eq _ _ _ ?_; (simp only [size_alloc]; done)) | with_reducible refine al_keep ?_ _ | with_reducible refine dr_keep ?_)) (by simp)
      obtain ⟨cA0, cA1, cA2, cA3, cA4, cA5⟩ := c6_of hA
      have zA := lt_of hA
      have HB : Hid (But [] w w8) := Lib.hid ((by repeat (first | with_reducible exact But.refl _ _ | with_reducible refine But.drew ?_ | with_reducible refine But.alloc ?_ _) : But [] w _).trans hb8 (by simp))
      have HA := Lib.hid hA
      clear hA hb8
      go_wp2_with fail
      go_ret2
      exact ⟨(by rw [HE.out]; first | done | rfl), HB.out⟩
set_option maxRecDepth 100000 in
set_option maxHeartbeats 4000000 in
theorem scHas0 (v m lo hi : Nat) (sl sh : Int) (x : Nat) (w : World) (hr : Rg ⟨⟨v, m⟩, ⟨lo, hi, sl, sh⟩⟩) : Calls Try.prog 15 #[.agg #[.int .u64 v, .int .u64 m, .int .u64 lo, .int .u64 hi, .int .i64 sl, .int .i64 sh], .int .u64 x] w fun e w' => e = .returned (.bool (hasT ⟨⟨v, m⟩, ⟨lo, hi, sl, sh⟩⟩ x)) ∧ But [] w w' := by
  have G0 := Lib.hid (fun w => scRight0 v m lo hi sl sh w hr)
  clear hr
  have G1 := Lib.hid (fun w => tnHas_c v m x w)
  have G2 := Lib.hid (fun w => spHas_c lo hi sl sh x w)
  cases e0 : rightB ⟨⟨v, m⟩, ⟨lo, hi, sl, sh⟩⟩ with
  | false =>
    rw [e0] at G0
    have HE : Hid (hasT ⟨⟨v, m⟩, ⟨lo, hi, sl, sh⟩⟩ x = false) := Lib.hid (by simp [hasT, e0])
    clear e0
    go_enter Try.func15, Try.ntmps15
    go_wp2_with fail
    refine (G0.out _).mono ?_
    rintro e w8 ⟨rfl, hb8⟩
    have hA : w8.heap[w.heap.size]? = some (.cells #[.int .u64 v, .int .u64 m, .int .u64 lo, .int .u64 hi, .int .i64 sl, .int .i64 sh] 28) := hb8.heap (by repeat (first | (with_reducible refine al_eq _ _ _ ?_; (simp only [size_alloc]; done)) | with_reducible refine al_keep ?_ _ | with_reducible refine dr_keep ?_)) (by simp)
    obtain ⟨cA0, cA1, cA2, cA3, cA4, cA5⟩ := c6_of hA
    have zA := lt_of hA
    have HB : Hid (But [] w w8) := Lib.hid ((by repeat (first | with_reducible exact But.refl _ _ | with_reducible refine But.drew ?_ | with_reducible refine But.alloc ?_ _) : But [] w _).trans hb8 (by simp))
    have HA := Lib.hid hA
    clear hA hb8
    go_wp2_with fail
    go_ret
    exact ⟨(by rw [HE.out]; first | done | rfl), HB.out⟩
  | true =>
    rw [e0] at G0
    cases e1 : tnHas ⟨v, m⟩ x with
    | false =>
      rw [e1] at G1
      have HE : Hid (hasT ⟨⟨v, m⟩, ⟨lo, hi, sl, sh⟩⟩ x = false) := Lib.hid (by simp [hasT, e1])
      clear e0 e1
      go_enter Try.func15, Try.ntmps15
      go_wp2_with fail
      refine (G0.out _).mono ?_
      rintro e w8 ⟨rfl, hb8⟩
      have hA : w8.heap[w.heap.size]? = some (.cells #[.int .u64 v, .int .u64 m, .int .u64 lo, .int .u64 hi, .int .i64 sl, .int .i64 sh] 28) := hb8.heap (by repeat (first | (with_reducible refine al_eq _ _ _ ?_; (simp only [size_alloc]; done)) | with_reducible refine al_keep ?_ _ | with_reducible refine dr_keep ?_)) (by simp)
      obtain ⟨cA0, cA1, cA2, cA3, cA4, cA5⟩ := c6_of hA
      have zA := lt_of hA
      have HB : Hid (But [] w w8) := Lib.hid ((by repeat (first | with_reducible exact But.refl _ _ | with_reducible refine But.drew ?_ | with_reducible refine But.alloc ?_ _) : But [] w _).trans hb8 (by simp))
      have HA := Lib.hid hA
      clear hA hb8
      go_wp2_with fail
      refine (G1.out _).mono ?_
      rintro e w9 ⟨rfl, hb9⟩
      have hA : w9.heap[w.heap.size]? = some (.cells #[.int .u64 v, .int .u64 m, .int .u64 lo, .int .u64 hi, .int .i64 sl, .int .i64 sh] 28) := hb9.heap (HA.out) (by simp)
      clear zA
      clear cA0 cA1 cA2 cA3 cA4 cA5
      obtain ⟨cA0, cA1, cA2, cA3, cA4, cA5⟩ := c6_of hA
      have zA := lt_of hA
      have HB : Hid (But [] w w9) := Lib.hid ((HB.out).trans hb9 (by simp))
      have HA := Lib.hid hA
      clear hA hb9
      go_wp2_with fail
      go_ret
      exact ⟨(by rw [HE.out]; first | done | rfl), HB.out⟩
    | true =>
      rw [e1] at G1
      cases e2 : spLeq (wordS x).s ⟨lo, hi, sl, sh⟩ with
      | false =>
        rw [e2] at G2
        have HE : Hid (hasT ⟨⟨v, m⟩, ⟨lo, hi, sl, sh⟩⟩ x = false) := Lib.hid (by simp [hasT, e2])
        clear e0 e1 e2
        go_enter Try.func15, Try.ntmps15
        go_wp2_with fail
        refine (G0.out _).mono ?_
        rintro e w8 ⟨rfl, hb8⟩
        have hA : w8.heap[w.heap.size]? = some (.cells #[.int .u64 v, .int .u64 m, .int .u64 lo, .int .u64 hi, .int .i64 sl, .int .i64 sh] 28) := hb8.heap (by repeat (first | (with_reducible refine al_eq _ _ _ ?_; (simp only [size_alloc]; done)) | with_reducible refine al_keep ?_ _ | with_reducible refine dr_keep ?_)) (by simp)
        obtain ⟨cA0, cA1, cA2, cA3, cA4, cA5⟩ := c6_of hA
        have zA := lt_of hA
        have HB : Hid (But [] w w8) := Lib.hid ((by repeat (first | with_reducible exact But.refl _ _ | with_reducible refine But.drew ?_ | with_reducible refine But.alloc ?_ _) : But [] w _).trans hb8 (by simp))
        have HA := Lib.hid hA
        clear hA hb8
        go_wp2_with fail
        refine (G1.out _).mono ?_
        rintro e w9 ⟨rfl, hb9⟩
        have hA : w9.heap[w.heap.size]? = some (.cells #[.int .u64 v, .int .u64 m, .int .u64 lo, .int .u64 hi, .int .i64 sl, .int .i64 sh] 28) := hb9.heap (HA.out) (by simp)
        clear zA
        clear cA0 cA1 cA2 cA3 cA4 cA5
        obtain ⟨cA0, cA1, cA2, cA3, cA4, cA5⟩ := c6_of hA
        have zA := lt_of hA
        have HB : Hid (But [] w w9) := Lib.hid ((HB.out).trans hb9 (by simp))
        have HA := Lib.hid hA
        clear hA hb9
        go_wp2_with fail
        refine (G2.out _).mono ?_
        rintro e w10 ⟨rfl, hb10⟩
        have hA : w10.heap[w.heap.size]? = some (.cells #[.int .u64 v, .int .u64 m, .int .u64 lo, .int .u64 hi, .int .i64 sl, .int .i64 sh] 28) := hb10.heap (HA.out) (by simp)
        clear zA
        clear cA0 cA1 cA2 cA3 cA4 cA5
        obtain ⟨cA0, cA1, cA2, cA3, cA4, cA5⟩ := c6_of hA
        have zA := lt_of hA
        have HB : Hid (But [] w w10) := Lib.hid ((HB.out).trans hb10 (by simp))
        have HA := Lib.hid hA
        clear hA hb10
        go_wp2_with fail
        go_ret
        exact ⟨(by rw [HE.out]; first | done | rfl), HB.out⟩
      | true =>
        rw [e2] at G2
        have HE : Hid (hasT ⟨⟨v, m⟩, ⟨lo, hi, sl, sh⟩⟩ x = true) := Lib.hid (by simp [hasT, e0, e1, e2])
        clear e0 e1 e2
        go_enter Try.func15, Try.ntmps15
        go_wp2_with fail
        refine (G0.out _).mono ?_
        rintro e w8 ⟨rfl, hb8⟩
        have hA : w8.heap[w.heap.size]? = some (.cells #[.int .u64 v, .int .u64 m, .int .u64 lo, .int .u64 hi, .int .i64 sl, .int .i64 sh] 28) := hb8.heap (by repeat (first | (with_reducible refine al_eq _ _ _ ?_; (simp only [size_alloc]; done)) | with_reducible refine al_keep ?_ _ | with_reducible refine dr_keep ?_)) (by simp)
        obtain ⟨cA0, cA1, cA2, cA3, cA4, cA5⟩ := c6_of hA
        have zA := lt_of hA
        have HB : Hid (But [] w w8) := Lib.hid ((by repeat (first | with_reducible exact But.refl _ _ | with_reducible refine But.drew ?_ | with_reducible refine But.alloc ?_ _) : But [] w _).trans hb8 (by simp))
        have HA := Lib.hid hA
        clear hA hb8
        go_wp2_with fail
        refine (G1.out _).mono ?_
        rintro e w9 ⟨rfl, hb9⟩
        have hA : w9.heap[w.heap.size]? = some (.cells #[.int .u64 v, .int .u64 m, .int .u64 lo, .int .u64 hi, .int .i64 sl, .int .i64 sh] 28) := hb9.heap (HA.out) (by simp)
        clear zA
        clear cA0 cA1 cA2 cA3 cA4 cA5
        obtain ⟨cA0, cA1, cA2, cA3, cA4, cA5⟩ := c6_of hA
        have zA := lt_of hA
        have HB : Hid (But [] w w9) := Lib.hid ((HB.out).trans hb9 (by simp))
        have HA := Lib.hid hA
        clear hA hb9
        go_wp2_with fail
        refine (G2.out _).mono ?_
        rintro e w10 ⟨rfl, hb10⟩
        have hA : w10.heap[w.heap.size]? = some (.cells #[.int .u64 v, .int .u64 m, .int .u64 lo, .int .u64 hi, .int .i64 sl, .int .i64 sh] 28) := hb10.heap (HA.out) (by simp)
        clear zA
        clear cA0 cA1 cA2 cA3 cA4 cA5
        obtain ⟨cA0, cA1, cA2, cA3, cA4, cA5⟩ := c6_of hA
        have zA := lt_of hA
        have HB : Hid (But [] w w10) := Lib.hid ((HB.out).trans hb10 (by simp))
        have HA := Lib.hid hA
        clear hA hb10
        go_wp2_with fail
        go_ret
        exact ⟨(by rw [HE.out]; first | done | rfl), HB.out⟩
set_option maxRecDepth 100000 in
set_option maxHeartbeats 4000000 in
theorem scLeq0 (v m lo hi xv xm xlo xhi : Nat) (sl sh xsl xsh : Int) (w : World) (hr : Rg ⟨⟨v, m⟩, ⟨lo, hi, sl, sh⟩⟩) (hx : Rg ⟨⟨xv, xm⟩, ⟨xlo, xhi, xsl, xsh⟩⟩) : Calls Try.prog 13 #[.agg #[.int .u64 v, .int .u64 m, .int .u64 lo, .int .u64 hi, .int .i64 sl, .int .i64 sh], .agg #[.int .u64 xv, .int .u64 xm, .int .u64 xlo, .int .u64 xhi, .int .i64 xsl, .int .i64 xsh]] w fun e w' => e = .returned (.bool (leqT ⟨⟨v, m⟩, ⟨lo, hi, sl, sh⟩⟩ ⟨⟨xv, xm⟩, ⟨xlo, xhi, xsl, xsh⟩⟩)) ∧ But [] w w' := by
  have G0 := Lib.hid (fun w => scRight0 v m lo hi sl sh w hr)
  have G1 := Lib.hid (fun w => scRight0 xv xm xlo xhi xsl xsh w hx)
  clear hr hx
  have G2 := Lib.hid (fun w => tnLeq_c v m xv xm w)
  have G3 := Lib.hid (fun w => spLeq_c lo hi xlo xhi sl sh xsl xsh w)
  cases e0 : rightB ⟨⟨v, m⟩, ⟨lo, hi, sl, sh⟩⟩ with
  | false =>
    rw [e0] at G0
    have HE : Hid (leqT ⟨⟨v, m⟩, ⟨lo, hi, sl, sh⟩⟩ ⟨⟨xv, xm⟩, ⟨xlo, xhi, xsl, xsh⟩⟩ = false) := Lib.hid (by simp [leqT, e0])
    clear e0
    go_enter Try.func13, Try.ntmps13
    go_wp2_with fail
    refine (G0.out _).mono ?_
    rintro e w8 ⟨rfl, hb8⟩
    have hA : w8.heap[w.heap.size]? = some (.cells #[.int .u64 v, .int .u64 m, .int .u64 lo, .int .u64 hi, .int .i64 sl, .int .i64 sh] 28) := hb8.heap (by repeat (first | (with_reducible refine al_eq _ _ _ ?_; (simp only [size_alloc]; done)) | with_reducible refine al_keep ?_ _ | with_reducible refine dr_keep ?_)) (by simp)
    have hX : w8.heap[w.heap.size + 1]? = some (.cells #[.int .u64 xv, .int .u64 xm, .int .u64 xlo, .int .u64 xhi, .int .i64 xsl, .int .i64 xsh] 28) := hb8.heap (by repeat (first | (with_reducible refine al_eq _ _ _ ?_; (simp only [size_alloc]; done)) | with_reducible refine al_keep ?_ _ | with_reducible refine dr_keep ?_)) (by simp)
    obtain ⟨cA0, cA1, cA2, cA3, cA4, cA5⟩ := c6_of hA
    have zA := lt_of hA
    obtain ⟨cX0, cX1, cX2, cX3, cX4, cX5⟩ := c6_of hX
    have zX := lt_of hX
    have HB : Hid (But [] w w8) := Lib.hid ((by repeat (first | with_reducible exact But.refl _ _ | with_reducible refine But.drew ?_ | with_reducible refine But.alloc ?_ _) : But [] w _).trans hb8 (by simp))
    have HA := Lib.hid hA
    have HX := Lib.hid hX
    clear hA hX hb8
    go_wp2_with fail
    go_ret
    exact ⟨(by rw [HE.out]; first | done | rfl), HB.out⟩
  | true =>
    rw [e0] at G0
    cases e1 : rightB ⟨⟨xv, xm⟩, ⟨xlo, xhi, xsl, xsh⟩⟩ with
    | false =>
      rw [e1] at G1
      have HE : Hid (leqT ⟨⟨v, m⟩, ⟨lo, hi, sl, sh⟩⟩ ⟨⟨xv, xm⟩, ⟨xlo, xhi, xsl, xsh⟩⟩ = false) := Lib.hid (by simp [leqT, e1])
      clear e0 e1
      go_enter Try.func13, Try.ntmps13
      go_wp2_with fail
      refine (G0.out _).mono ?_
      rintro e w8 ⟨rfl, hb8⟩
      have hA : w8.heap[w.heap.size]? = some (.cells #[.int .u64 v, .int .u64 m, .int .u64 lo, .int .u64 hi, .int .i64 sl, .int .i64 sh] 28) := hb8.heap (by repeat (first | (with_reducible refine al_eq _ _ _ ?_; (simp only [size_alloc]; done)) | with_reducible refine al_keep ?_ _ | with_reducible refine dr_keep ?_)) (by simp)
      have hX : w8.heap[w.heap.size + 1]? = some (.cells #[.int .u64 xv, .int .u64 xm, .int .u64 xlo, .int .u64 xhi, .int .i64 xsl, .int .i64 xsh] 28) := hb8.heap (by repeat (first | (with_reducible refine al_eq _ _ _ ?_; (simp only [size_alloc]; done)) | with_reducible refine al_keep ?_ _ | with_reducible refine dr_keep ?_)) (by simp)
      obtain ⟨cA0, cA1, cA2, cA3, cA4, cA5⟩ := c6_of hA
      have zA := lt_of hA
      obtain ⟨cX0, cX1, cX2, cX3, cX4, cX5⟩ := c6_of hX
      have zX := lt_of hX
      have HB : Hid (But [] w w8) := Lib.hid ((by repeat (first | with_reducible exact But.refl _ _ | with_reducible refine But.drew ?_ | with_reducible refine But.alloc ?_ _) : But [] w _).trans hb8 (by simp))
      have HA := Lib.hid hA
      have HX := Lib.hid hX
      clear hA hX hb8
      go_wp2_with fail
      refine (G1.out _).mono ?_
      rintro e w9 ⟨rfl, hb9⟩
      have hA : w9.heap[w.heap.size]? = some (.cells #[.int .u64 v, .int .u64 m, .int .u64 lo, .int .u64 hi, .int .i64 sl, .int .i64 sh] 28) := hb9.heap (HA.out) (by simp)
      have hX : w9.heap[w.heap.size + 1]? = some (.cells #[.int .u64 xv, .int .u64 xm, .int .u64 xlo, .int .u64 xhi, .int .i64 xsl, .int .i64 xsh] 28) := hb9.heap (HX.out) (by simp)
      clear zA zX
      clear cA0 cA1 cA2 cA3 cA4 cA5 cX0 cX1 cX2 cX3 cX4 cX5
      obtain ⟨cA0, cA1, cA2, cA3, cA4, cA5⟩ := c6_of hA
      have zA := lt_of hA
      obtain ⟨cX0, cX1, cX2, cX3, cX4, cX5⟩ := c6_of hX
      have zX := lt_of hX
      have HB : Hid (But [] w w9) := Lib.hid ((HB.out).trans hb9 (by simp))
      have HA := Lib.hid hA
      have HX := Lib.hid hX
      clear hA hX hb9
      go_wp2_with fail
      go_ret
      exact ⟨(by rw [HE.out]; first | done | rfl), HB.out⟩
    | true =>
      rw [e1] at G1
      cases e2 : tnLeq ⟨v, m⟩ ⟨xv, xm⟩ with
      | false =>
        rw [e2] at G2
        have HE : Hid (leqT ⟨⟨v, m⟩, ⟨lo, hi, sl, sh⟩⟩ ⟨⟨xv, xm⟩, ⟨xlo, xhi, xsl, xsh⟩⟩ = false) := Lib.hid (by simp [leqT, e2])
        clear e0 e1 e2
        go_enter Try.func13, Try.ntmps13
        go_wp2_with fail
        refine (G0.out _).mono ?_
        rintro e w8 ⟨rfl, hb8⟩
        have hA : w8.heap[w.heap.size]? = some (.cells #[.int .u64 v, .int .u64 m, .int .u64 lo, .int .u64 hi, .int .i64 sl, .int .i64 sh] 28) := hb8.heap (by repeat (first | (with_reducible refine al_eq _ _ _ ?_; (simp only [size_alloc]; done)) | with_reducible refine al_keep ?_ _ | with_reducible refine dr_keep ?_)) (by simp)
        have hX : w8.heap[w.heap.size + 1]? = some (.cells #[.int .u64 xv, .int .u64 xm, .int .u64 xlo, .int .u64 xhi, .int .i64 xsl, .int .i64 xsh] 28) := hb8.heap (by repeat (first | (with_reducible refine al_eq _ _ _ ?_; (simp only [size_alloc]; done)) | with_reducible refine al_keep ?_ _ | with_reducible refine dr_keep ?_)) (by simp)
        obtain ⟨cA0, cA1, cA2, cA3, cA4, cA5⟩ := c6_of hA
        have zA := lt_of hA
        obtain ⟨cX0, cX1, cX2, cX3, cX4, cX5⟩ := c6_of hX
        have zX := lt_of hX
        have HB : Hid (But [] w w8) := Lib.hid ((by repeat (first | with_reducible exact But.refl _ _ | with_reducible refine But.drew ?_ | with_reducible refine But.alloc ?_ _) : But [] w _).trans hb8 (by simp))
        have HA := Lib.hid hA
        have HX := Lib.hid hX
        clear hA hX hb8
        go_wp2_with fail
        refine (G1.out _).mono ?_
        rintro e w9 ⟨rfl, hb9⟩
        have hA : w9.heap[w.heap.size]? = some (.cells #[.int .u64 v, .int .u64 m, .int .u64 lo, .int .u64 hi, .int .i64 sl, .int .i64 sh] 28) := hb9.heap (HA.out) (by simp)
        have hX : w9.heap[w.heap.size + 1]? = some (.cells #[.int .u64 xv, .int .u64 xm, .int .u64 xlo, .int .u64 xhi, .int .i64 xsl, .int .i64 xsh] 28) := hb9.heap (HX.out) (by simp)
        clear zA zX
        clear cA0 cA1 cA2 cA3 cA4 cA5 cX0 cX1 cX2 cX3 cX4 cX5
        obtain ⟨cA0, cA1, cA2, cA3, cA4, cA5⟩ := c6_of hA
        have zA := lt_of hA
        obtain ⟨cX0, cX1, cX2, cX3, cX4, cX5⟩ := c6_of hX
        have zX := lt_of hX
        have HB : Hid (But [] w w9) := Lib.hid ((HB.out).trans hb9 (by simp))
        have HA := Lib.hid hA
        have HX := Lib.hid hX
        clear hA hX hb9
        go_wp2_with fail
        refine (G2.out _).mono ?_
        rintro e w10 ⟨rfl, hb10⟩
        have hA : w10.heap[w.heap.size]? = some (.cells #[.int .u64 v, .int .u64 m, .int .u64 lo, .int .u64 hi, .int .i64 sl, .int .i64 sh] 28) := hb10.heap (HA.out) (by simp)
        have hX : w10.heap[w.heap.size + 1]? = some (.cells #[.int .u64 xv, .int .u64 xm, .int .u64 xlo, .int .u64 xhi, .int .i64 xsl, .int .i64 xsh] 28) := hb10.heap (HX.out) (by simp)
        clear zA zX
        clear cA0 cA1 cA2 cA3 cA4 cA5 cX0 cX1 cX2 cX3 cX4 cX5
        obtain ⟨cA0, cA1, cA2, cA3, cA4, cA5⟩ := c6_of hA
        have zA := lt_of hA
        obtain ⟨cX0, cX1, cX2, cX3, cX4, cX5⟩ := c6_of hX
        have zX := lt_of hX
        have HB : Hid (But [] w w10) := Lib.hid ((HB.out).trans hb10 (by simp))
        have HA := Lib.hid hA
        have HX := Lib.hid hX
        clear hA hX hb10
        go_wp2_with fail
        go_ret
        exact ⟨(by rw [HE.out]; first | done | rfl), HB.out⟩
      | true =>
        rw [e2] at G2
        cases e3 : spLeq ⟨lo, hi, sl, sh⟩ ⟨xlo, xhi, xsl, xsh⟩ with
        | false =>
          rw [e3] at G3
          have HE : Hid (leqT ⟨⟨v, m⟩, ⟨lo, hi, sl, sh⟩⟩ ⟨⟨xv, xm⟩, ⟨xlo, xhi, xsl, xsh⟩⟩ = false) := Lib.hid (by simp [leqT, e3])
          clear e0 e1 e2 e3
          go_enter Try.func13, Try.ntmps13
          go_wp2_with fail
          refine (G0.out _).mono ?_
          rintro e w8 ⟨rfl, hb8⟩
          have hA : w8.heap[w.heap.size]? = some (.cells #[.int .u64 v, .int .u64 m, .int .u64 lo, .int .u64 hi, .int .i64 sl, .int .i64 sh] 28) := hb8.heap (by repeat (first | (with_reducible refine al_eq _ _ _ ?_; (simp only [size_alloc]; done)) | with_reducible refine al_keep ?_ _ | with_reducible refine dr_keep ?_)) (by simp)
          have hX : w8.heap[w.heap.size + 1]? = some (.cells #[.int .u64 xv, .int .u64 xm, .int .u64 xlo, .int .u64 xhi, .int .i64 xsl, .int .i64 xsh] 28) := hb8.heap (by repeat (first | (with_reducible refine al_eq _ _ _ ?_; (simp only [size_alloc]; done)) | with_reducible refine al_keep ?_ _ | with_reducible refine dr_keep ?_)) (by simp)
          obtain ⟨cA0, cA1, cA2, cA3, cA4, cA5⟩ := c6_of hA
          have zA := lt_of hA
          obtain ⟨cX0, cX1, cX2, cX3, cX4, cX5⟩ := c6_of hX
          have zX := lt_of hX
          have HB : Hid (But [] w w8) := Lib.hid ((by repeat (first | with_reducible exact But.refl _ _ | with_reducible refine But.drew ?_ | with_reducible refine But.alloc ?_ _) : But [] w _).trans hb8 (by simp))
          have HA := Lib.hid hA
          have HX := Lib.hid hX
          clear hA hX hb8
          go_wp2_with fail
          refine (G1.out _).mono ?_
          rintro e w9 ⟨rfl, hb9⟩
          have hA : w9.heap[w.heap.size]? = some (.cells #[.int .u64 v, .int .u64 m, .int .u64 lo, .int .u64 hi, .int .i64 sl, .int .i64 sh] 28) := hb9.heap (HA.out) (by simp)
          have hX : w9.heap[w.heap.size + 1]? = some (.cells #[.int .u64 xv, .int .u64 xm, .int .u64 xlo, .int .u64 xhi, .int .i64 xsl, .int .i64 xsh] 28) := hb9.heap (HX.out) (by simp)
          clear zA zX
          clear cA0 cA1 cA2 cA3 cA4 cA5 cX0 cX1 cX2 cX3 cX4 cX5
          obtain ⟨cA0, cA1, cA2, cA3, cA4, cA5⟩ := c6_of hA
          have zA := lt_of hA
          obtain ⟨cX0, cX1, cX2, cX3, cX4, cX5⟩ := c6_of hX
          have zX := lt_of hX
          have HB : Hid (But [] w w9) := Lib.hid ((HB.out).trans hb9 (by simp))
          have HA := Lib.hid hA
          have HX := Lib.hid hX
          clear hA hX hb9
          go_wp2_with fail
          refine (G2.out _).mono ?_
          rintro e w10 ⟨rfl, hb10⟩
          have hA : w10.heap[w.heap.size]? = some (.cells #[.int .u64 v, .int .u64 m, .int .u64 lo, .int .u64 hi, .int .i64 sl, .int .i64 sh] 28) := hb10.heap (HA.out) (by simp)
          have hX : w10.heap[w.heap.size + 1]? = some (.cells #[.int .u64 xv, .int .u64 xm, .int .u64 xlo, .int .u64 xhi, .int .i64 xsl, .int .i64 xsh] 28) := hb10.heap (HX.out) (by simp)
          clear zA zX
          clear cA0 cA1 cA2 cA3 cA4 cA5 cX0 cX1 cX2 cX3 cX4 cX5
          obtain ⟨cA0, cA1, cA2, cA3, cA4, cA5⟩ := c6_of hA
          have zA := lt_of hA
          obtain ⟨cX0, cX1, cX2, cX3, cX4, cX5⟩ := c6_of hX
          have zX := lt_of hX
          have HB : Hid (But [] w w10) := Lib.hid ((HB.out).trans hb10 (by simp))
          have HA := Lib.hid hA
          have HX := Lib.hid hX
          clear hA hX hb10
          go_wp2_with fail
          refine (G3.out _).mono ?_
          rintro e w11 ⟨rfl, hb11⟩
          have hA : w11.heap[w.heap.size]? = some (.cells #[.int .u64 v, .int .u64 m, .int .u64 lo, .int .u64 hi, .int .i64 sl, .int .i64 sh] 28) := hb11.heap (HA.out) (by simp)
          have hX : w11.heap[w.heap.size + 1]? = some (.cells #[.int .u64 xv, .int .u64 xm, .int .u64 xlo, .int .u64 xhi, .int .i64 xsl, .int .i64 xsh] 28) := hb11.heap (HX.out) (by simp)
          clear zA zX
          clear cA0 cA1 cA2 cA3 cA4 cA5 cX0 cX1 cX2 cX3 cX4 cX5
          obtain ⟨cA0, cA1, cA2, cA3, cA4, cA5⟩ := c6_of hA
          have zA := lt_of hA
          obtain ⟨cX0, cX1, cX2, cX3, cX4, cX5⟩ := c6_of hX
          have zX := lt_of hX
          have HB : Hid (But [] w w11) := Lib.hid ((HB.out).trans hb11 (by simp))
          have HA := Lib.hid hA
          have HX := Lib.hid hX
          clear hA hX hb11
          go_wp2_with fail
          go_ret
          exact ⟨(by rw [HE.out]; first | done | rfl), HB.out⟩
        | true =>
          rw [e3] at G3
          have HE : Hid (leqT ⟨⟨v, m⟩, ⟨lo, hi, sl, sh⟩⟩ ⟨⟨xv, xm⟩, ⟨xlo, xhi, xsl, xsh⟩⟩ = true) := Lib.hid (by simp [leqT, e0, e1, e2, e3])
          clear e0 e1 e2 e3
          go_enter Try.func13, Try.ntmps13
          go_wp2_with fail
          refine (G0.out _).mono ?_
          rintro e w8 ⟨rfl, hb8⟩
          have hA : w8.heap[w.heap.size]? = some (.cells #[.int .u64 v, .int .u64 m, .int .u64 lo, .int .u64 hi, .int .i64 sl, .int .i64 sh] 28) := hb8.heap (by repeat (first | (with_reducible refine al_eq _ _ _ ?_; (simp only [size_alloc]; done)) | with_reducible refine al_keep ?_ _ | with_reducible refine dr_keep ?_)) (by simp)
          have hX : w8.heap[w.heap.size + 1]? = some (.cells #[.int .u64 xv, .int .u64 xm, .int .u64 xlo, .int .u64 xhi, .int .i64 xsl, .int .i64 xsh] 28) := hb8.heap (by repeat (first | (with_reducible refine al_eq _ _ _ ?_; (simp only [size_alloc]; done)) | with_reducible refine al_keep ?_ _ | with_reducible refine dr_keep ?_)) (by simp)
          obtain ⟨cA0, cA1, cA2, cA3, cA4, cA5⟩ := c6_of hA
          have zA := lt_of hA
          obtain ⟨cX0, cX1, cX2, cX3, cX4, cX5⟩ := c6_of hX
          have zX := lt_of hX
          have HB : Hid (But [] w w8) := Lib.hid ((by repeat (first | with_reducible exact But.refl _ _ | with_reducible refine But.drew ?_ | with_reducible refine But.alloc ?_ _) : But [] w _).trans hb8 (by simp))
          have HA := Lib.hid hA
          have HX := Lib.hid hX
          clear hA hX hb8
          go_wp2_with fail
          refine (G1.out _).mono ?_
          rintro e w9 ⟨rfl, hb9⟩
          have hA : w9.heap[w.heap.size]? = some (.cells #[.int .u64 v, .int .u64 m, .int .u64 lo, .int .u64 hi, .int .i64 sl, .int .i64 sh] 28) := hb9.heap (HA.out) (by simp)
          have hX : w9.heap[w.heap.size + 1]? = some (.cells #[.int .u64 xv, .int .u64 xm, .int .u64 xlo, .int .u64 xhi, .int .i64 xsl, .int .i64 xsh] 28) := hb9.heap (HX.out) (by simp)
          clear zA zX
          clear cA0 cA1 cA2 cA3 cA4 cA5 cX0 cX1 cX2 cX3 cX4 cX5
          obtain ⟨cA0, cA1, cA2, cA3, cA4, cA5⟩ := c6_of hA
          have zA := lt_of hA
          obtain ⟨cX0, cX1, cX2, cX3, cX4, cX5⟩ := c6_of hX
          have zX := lt_of hX
          have HB : Hid (But [] w w9) := Lib.hid ((HB.out).trans hb9 (by simp))
          have HA := Lib.hid hA
          have HX := Lib.hid hX
          clear hA hX hb9
          go_wp2_with fail
          refine (G2.out _).mono ?_
          rintro e w10 ⟨rfl, hb10⟩
          have hA : w10.heap[w.heap.size]? = some (.cells #[.int .u64 v, .int .u64 m, .int .u64 lo, .int .u64 hi, .int .i64 sl, .int .i64 sh] 28) := hb10.heap (HA.out) (by simp)
          have hX : w10.heap[w.heap.size + 1]? = some (.cells #[.int .u64 xv, .int .u64 xm, .int .u64 xlo, .int .u64 xhi, .int .i64 xsl, .int .i64 xsh] 28) := hb10.heap (HX.out) (by simp)
          clear zA zX
          clear cA0 cA1 cA2 cA3 cA4 cA5 cX0 cX1 cX2 cX3 cX4 cX5
          obtain ⟨cA0, cA1, cA2, cA3, cA4, cA5⟩ := c6_of hA
          have zA := lt_of hA
          obtain ⟨cX0, cX1, cX2, cX3, cX4, cX5⟩ := c6_of hX
          have zX := lt_of hX
          have HB : Hid (But [] w w10) := Lib.hid ((HB.out).trans hb10 (by simp))
          have HA := Lib.hid hA
          have HX := Lib.hid hX
          clear hA hX hb10
          go_wp2_with fail
          refine (G3.out _).mono ?_
          rintro e w11 ⟨rfl, hb11⟩
          have hA : w11.heap[w.heap.size]? = some (.cells #[.int .u64 v, .int .u64 m, .int .u64 lo, .int .u64 hi, .int .i64 sl, .int .i64 sh] 28) := hb11.heap (HA.out) (by simp)
          have hX : w11.heap[w.heap.size + 1]? = some (.cells #[.int .u64 xv, .int .u64 xm, .int .u64 xlo, .int .u64 xhi, .int .i64 xsl, .int .i64 xsh] 28) := hb11.heap (HX.out) (by simp)
          clear zA zX
          clear cA0 cA1 cA2 cA3 cA4 cA5 cX0 cX1 cX2 cX3 cX4 cX5
          obtain ⟨cA0, cA1, cA2, cA3, cA4, cA5⟩ := c6_of hA
          have zA := lt_of hA
          obtain ⟨cX0, cX1, cX2, cX3, cX4, cX5⟩ := c6_of hX
          have zX := lt_of hX
          have HB : Hid (But [] w w11) := Lib.hid ((HB.out).trans hb11 (by simp))
          have HA := Lib.hid hA
          have HX := Lib.hid hX
          clear hA hX hb11
          go_wp2_with fail
          go_ret
          exact ⟨(by rw [HE.out]; first | done | rfl), HB.out⟩
end Go.Proofs.Ytmbmmcippglfoaa.M
