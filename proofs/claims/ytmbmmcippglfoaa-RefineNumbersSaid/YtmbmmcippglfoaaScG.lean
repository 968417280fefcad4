/-
  refine.some; scalar.Meet.
-/
import Derived.Test.YtmbmmcippglfoaaScF
import Derived.Test.YtmbmmcippglfoaaGD
namespace Go.Proofs.Ytmbmmcippglfoaa.M
open Go.RowKit Go.Shelf
set_option linter.unusedVariables false
set_option linter.unusedSectionVars false
set_option linter.unusedSimpArgs false

set_option maxRecDepth 100000 in
set_option maxHeartbeats 4000000 in
theorem maybe_c (v m lo hi : Nat) (sl sh : Int) (w : World) : Calls Try.prog 89 #[.agg #[.int .u64 v, .int .u64 m, .int .u64 lo, .int .u64 hi, .int .i64 sl, .int .i64 sh]] w fun e w' => e = .returned (.int .u64 ((uor v m : Nat) : Int)) ∧ w' = w.alloc (.cells #[.int .u64 v, .int .u64 m, .int .u64 lo, .int .u64 hi, .int .i64 sl, .int .i64 sh] 28) := by
  go_enter Try.func89, Try.ntmps89
  go_wp2
  go_ret
  exact ⟨rfl, rfl⟩
set_option maxRecDepth 100000 in
set_option maxHeartbeats 4000000 in
theorem some_c (v m lo hi xv xm xlo xhi : Nat) (sl sh xsl xsh : Int) (w : World) (hr : Rg ⟨⟨v, m⟩, ⟨lo, hi, sl, sh⟩⟩) (hx : Rg ⟨⟨xv, xm⟩, ⟨xlo, xhi, xsl, xsh⟩⟩) : Calls Try.prog 53 #[.agg #[.int .u64 v, .int .u64 m, .int .u64 lo, .int .u64 hi, .int .i64 sl, .int .i64 sh], .agg #[.int .u64 xv, .int .u64 xm, .int .u64 xlo, .int .u64 xhi, .int .i64 xsl, .int .i64 xsh]] w (RulePost (someT ⟨⟨v, m⟩, ⟨lo, hi, sl, sh⟩⟩ ⟨⟨xv, xm⟩, ⟨xlo, xhi, xsl, xsh⟩⟩) w) := by
  obtain ⟨a, ha⟩ : ∃ a, a = uor v m := ⟨_, rfl⟩
  obtain ⟨b, hb⟩ : ∃ b, b = uor xv xm := ⟨_, rfl⟩
  obtain ⟨n, hn⟩ : ∃ n, n = uand a b := ⟨_, rfl⟩
  have hn64 : n < 18446744073709551616 := by rw [hn]; exact uand_lt _ _
  have C0 := Lib.hid (fun w => maybe_c v m lo hi sl sh w)
  have C1 := Lib.hid (fun w => maybe_c xv xm xlo xhi xsl xsh w)
  rw [← ha] at C0
  rw [← hb] at C1
  have C2 := Lib.hid (fun w => ones_c n w hn64)
  have C3 := Lib.hid (fun w => known_c v m lo hi sl sh n n w hn64 hr)
  have hand : bits .and .u64 (a : Int) (b : Int) = (n : Int) := by rw [hn]; exact bits_and a b
  have HE : Hid (someT ⟨⟨v, m⟩, ⟨lo, hi, sl, sh⟩⟩ ⟨⟨xv, xm⟩, ⟨xlo, xhi, xsl, xsh⟩⟩ = if n = 0 then none else if single n then knownT ⟨⟨v, m⟩, ⟨lo, hi, sl, sh⟩⟩ n n else some ⟨⟨v, m⟩, ⟨lo, hi, sl, sh⟩⟩) := Lib.hid (by unfold someT maybeN; simp only [← ha, ← hb, ← hn])
  have HZ := Lib.hid (pop_zero n hn64)
  have HO := Lib.hid (pop_one n hn64)
  obtain ⟨c, hc⟩ : ∃ c, c = popN n := ⟨_, rfl⟩
  rw [← hc] at C2 HZ HO
  clear ha hb hn hn64 hr hx hc
  go_enter Try.func53, Try.ntmps53
  go_wp2_with fail
  go_cut [6] (fun x wx => x = .int .u64 (n : Int) ∧ But [] (((w.alloc (.cells #[.int .u64 v, .int .u64 m, .int .u64 lo, .int .u64 hi, .int .i64 sl, .int .i64 sh] 28)).alloc (.cells #[.int .u64 xv, .int .u64 xm, .int .u64 xlo, .int .u64 xhi, .int .i64 xsl, .int .i64 xsh] 28)).alloc (.cells #[.int .u64 0, .int .u64 0, .int .u64 0, .int .u64 0, .int .i64 0, .int .i64 0] 28)) wx)
  case first =>
    have HK : Hid (∀ wx, But [] (((w.alloc (.cells #[.int .u64 v, .int .u64 m, .int .u64 lo, .int .u64 hi, .int .i64 sl, .int .i64 sh] 28)).alloc (.cells #[.int .u64 xv, .int .u64 xm, .int .u64 xlo, .int .u64 xhi, .int .i64 xsl, .int .i64 xsh] 28)).alloc (.cells #[.int .u64 0, .int .u64 0, .int .u64 0, .int .u64 0, .int .i64 0, .int .i64 0] 28)) wx → wx.cell? ⟨w.heap.size, 0, none⟩ = some (.int .u64 v) ∧ wx.cell? ⟨w.heap.size, 1, none⟩ = some (.int .u64 m) ∧ wx.cell? ⟨w.heap.size, 2, none⟩ = some (.int .u64 lo) ∧ wx.cell? ⟨w.heap.size, 3, none⟩ = some (.int .u64 hi) ∧ wx.cell? ⟨w.heap.size, 4, none⟩ = some (.int .i64 sl) ∧ wx.cell? ⟨w.heap.size, 5, none⟩ = some (.int .i64 sh) ∧ wx.cell? ⟨w.heap.size + 1, 0, none⟩ = some (.int .u64 xv) ∧ wx.cell? ⟨w.heap.size + 1, 1, none⟩ = some (.int .u64 xm) ∧ wx.cell? ⟨w.heap.size + 1, 2, none⟩ = some (.int .u64 xlo) ∧ wx.cell? ⟨w.heap.size + 1, 3, none⟩ = some (.int .u64 xhi) ∧ wx.cell? ⟨w.heap.size + 1, 4, none⟩ = some (.int .i64 xsl) ∧ wx.cell? ⟨w.heap.size + 1, 5, none⟩ = some (.int .i64 xsh)) := Lib.hid (fun wx hb => by
      have h1 : wx.heap[w.heap.size]? = some (.cells #[.int .u64 v, .int .u64 m, .int .u64 lo, .int .u64 hi, .int .i64 sl, .int .i64 sh] 28) := hb.heap (by repeat (first | (with_reducible refine al_eq _ _ _ ?_; (simp only [size_alloc]; done)) | with_reducible refine al_keep ?_ _ | with_reducible refine dr_keep ?_)) (by simp)
      have h2 : wx.heap[w.heap.size + 1]? = some (.cells #[.int .u64 xv, .int .u64 xm, .int .u64 xlo, .int .u64 xhi, .int .i64 xsl, .int .i64 xsh] 28) := hb.heap (by repeat (first | (with_reducible refine al_eq _ _ _ ?_; (simp only [size_alloc]; done)) | with_reducible refine al_keep ?_ _ | with_reducible refine dr_keep ?_)) (by simp)
      exact ⟨cl_of h1 0, cl_of h1 1, cl_of h1 2, cl_of h1 3, cl_of h1 4, cl_of h1 5, cl_of h2 0, cl_of h2 1, cl_of h2 2, cl_of h2 3, cl_of h2 4, cl_of h2 5⟩)
    go_region_held3 (fun wx => wx.cell? ⟨w.heap.size, 0, none⟩ = some (.int .u64 v) ∧ wx.cell? ⟨w.heap.size, 1, none⟩ = some (.int .u64 m) ∧ wx.cell? ⟨w.heap.size, 2, none⟩ = some (.int .u64 lo) ∧ wx.cell? ⟨w.heap.size, 3, none⟩ = some (.int .u64 hi) ∧ wx.cell? ⟨w.heap.size, 4, none⟩ = some (.int .i64 sl) ∧ wx.cell? ⟨w.heap.size, 5, none⟩ = some (.int .i64 sh) ∧ wx.cell? ⟨w.heap.size + 1, 0, none⟩ = some (.int .u64 xv) ∧ wx.cell? ⟨w.heap.size + 1, 1, none⟩ = some (.int .u64 xm) ∧ wx.cell? ⟨w.heap.size + 1, 2, none⟩ = some (.int .u64 xlo) ∧ wx.cell? ⟨w.heap.size + 1, 3, none⟩ = some (.int .u64 xhi) ∧ wx.cell? ⟨w.heap.size + 1, 4, none⟩ = some (.int .i64 xsl) ∧ wx.cell? ⟨w.heap.size + 1, 5, none⟩ = some (.int .i64 xsh)) (exact HK.out _ (by repeat (first | with_reducible exact But.refl _ _ | with_reducible refine But.drew ?_ | with_reducible refine But.alloc ?_ _))) (first | (go_at_call 89; (with_reducible refine (C0.out _).mono ?_); rintro e w8 ⟨rfl, rfl⟩) | (go_at_call 89; (with_reducible refine (C1.out _).mono ?_); rintro e w8 ⟨rfl, rfl⟩))
    all_goals (go_wp2_with fail)
    all_goals go_meet
    all_goals exact ⟨rfl, (by repeat (first | with_reducible exact But.refl _ _ | with_reducible refine But.drew ?_ | with_reducible refine But.alloc ?_ _))⟩
  case rest =>
    obtain ⟨rfl, hb8⟩ := hcut
    rename World => w8
    clear hand
    have hA : w8.heap[w.heap.size]? = some (.cells #[.int .u64 v, .int .u64 m, .int .u64 lo, .int .u64 hi, .int .i64 sl, .int .i64 sh] 28) := hb8.heap (by repeat (first | (with_reducible refine al_eq _ _ _ ?_; (simp only [size_alloc]; done)) | with_reducible refine al_keep ?_ _ | with_reducible refine dr_keep ?_)) (by simp)
    have hR : w8.heap[w.heap.size + 1 + 1]? = some (.cells #[.int .u64 0, .int .u64 0, .int .u64 0, .int .u64 0, .int .i64 0, .int .i64 0] 28) := hb8.heap (by repeat (first | (with_reducible refine al_eq _ _ _ ?_; (simp only [size_alloc]; done)) | with_reducible refine al_keep ?_ _ | with_reducible refine dr_keep ?_)) (by simp)
    obtain ⟨cA0, cA1, cA2, cA3, cA4, cA5⟩ := c6_of hA
    have zA := lt_of hA
    obtain ⟨cR0, cR1, cR2, cR3, cR4, cR5⟩ := c6_of hR
    obtain ⟨fR0, fR1, fR2, fR3, fR4, fR5⟩ := f6_of hR
    have zR := lt_of hR
    have HB : Hid (But [] w w8) := Lib.hid ((by repeat (first | with_reducible exact But.refl _ _ | with_reducible refine But.drew ?_ | with_reducible refine But.alloc ?_ _) : But [] w _).trans hb8 (by simp))
    have HA := Lib.hid hA
    have HR := Lib.hid hR
    clear hA hR hb8
    by_cases h0 : c = 0
    · have h1 : n = 0 := HZ.out.1 h0
      rw [if_pos h1] at HE
      have e0 : ((c : Int) == 0) = true := by rw [beq_iff_eq]; omega
      clear h0 h1
      go_wp2_with fail
      refine (C2.out _).mono ?_
      rintro e w9 ⟨rfl, rfl⟩
      go_wp2_with fail
      exact bodyPost_ret (v := .tuple #[.agg #[.int .u64 0, .int .u64 0, .int .u64 0, .int .u64 0, .int .i64 0, .int .i64 0], .bool false]) (by simp [results, Try.results53, go_sem, cR0, cR1, cR2, cR3, cR4, cR5]) rfl (RulePost.mk (zeroSc) (by rw [HE.out]; rfl) (fun d hd => by rw [HE.out] at hd; cases hd) (by
    repeat (first | with_reducible exact HB.out | with_reducible refine But.alloc ?_ _ | (with_reducible refine But.setCell ?_ (.inr ?_) _; rotate_left; (simp only []; omega)))))
    · have h1 : n ≠ 0 := fun e => h0 (HZ.out.2 e)
      rw [if_neg h1] at HE
      have e0 : ((c : Int) == 0) = false := by rw [beq_eq_false_iff_ne]; omega
      clear h1
      by_cases h2 : c = 1
      · have h3 : single n = true := HO.out.1 h2
        rw [if_pos h3] at HE
        have e1 : ((c : Int) == 1) = true := by rw [beq_iff_eq]; omega
        clear h0 h2 h3
        go_wp2_with fail
        refine (C2.out _).mono ?_
        rintro e w9 ⟨rfl, rfl⟩
        go_wp2_with fail
        refine (C3.out _).mono ?_
        rintro e w10 ⟨⟨⟨gv, gm⟩, ⟨gl, gh, gi, gj⟩⟩, rfl, hc, hb10⟩
        have HC := Lib.hid hc
        obtain ⟨gb, hgb⟩ : ∃ b, (knownT ⟨⟨v, m⟩, ⟨lo, hi, sl, sh⟩⟩ n n).isSome = b := ⟨_, rfl⟩
        have HGB := Lib.hid hgb
        simp only [Sc.val]
        rw [hgb]
        clear hc hgb
        have hR : w10.heap[w.heap.size + 1 + 1]? = some (.cells #[.int .u64 0, .int .u64 0, .int .u64 0, .int .u64 0, .int .i64 0, .int .i64 0] 28) := hb10.heap (HR.out) (by simp)
        clear zA zR
        clear cA0 cA1 cA2 cA3 cA4 cA5 cR0 cR1 cR2 cR3 cR4 cR5
        clear fR0 fR1 fR2 fR3 fR4 fR5
        obtain ⟨cR0, cR1, cR2, cR3, cR4, cR5⟩ := c6_of hR
        obtain ⟨fR0, fR1, fR2, fR3, fR4, fR5⟩ := f6_of hR
        have zR := lt_of hR
        have HB : Hid (But [] w w10) := Lib.hid ((HB.out).trans hb10 (by simp))
        have HR := Lib.hid hR
        clear hR hb10
        go_wp2_with fail
        exact bodyPost_ret (v := .tuple #[.agg #[.int .u64 gv, .int .u64 gm, .int .u64 gl, .int .u64 gh, .int .i64 gi, .int .i64 gj], .bool gb]) (by simp [results, Try.results53, go_sem, cR0, cR1, cR2, cR3, cR4, cR5]) rfl (RulePost.mk (⟨⟨gv, gm⟩, ⟨gl, gh, gi, gj⟩⟩) (by rw [HE.out, HGB.out]; rfl) (fun d hd => by rw [HE.out] at hd; exact HC.out d hd) (by
    repeat (first | with_reducible exact HB.out | with_reducible refine But.alloc ?_ _ | (with_reducible refine But.setCell ?_ (.inr ?_) _; rotate_left; (simp only []; omega)))))
      · have h3 : ¬ single n = true := fun e => h2 (HO.out.2 e)
        rw [if_neg h3] at HE
        have e1 : ((c : Int) == 1) = false := by rw [beq_eq_false_iff_ne]; omega
        clear h0 h2 h3
        go_wp2_with fail
        refine (C2.out _).mono ?_
        rintro e w9 ⟨rfl, rfl⟩
        go_wp2_with fail
        exact bodyPost_ret (v := .tuple #[.agg #[.int .u64 v, .int .u64 m, .int .u64 lo, .int .u64 hi, .int .i64 sl, .int .i64 sh], .bool true]) (by simp [results, Try.results53, go_sem, cR0, cR1, cR2, cR3, cR4, cR5]) rfl (RulePost.mk (⟨⟨v, m⟩, ⟨lo, hi, sl, sh⟩⟩) (by rw [HE.out]; rfl) (fun d hd => by rw [HE.out] at hd; cases hd; rfl) (by
    repeat (first | with_reducible exact HB.out | with_reducible refine But.alloc ?_ _ | (with_reducible refine But.setCell ?_ (.inr ?_) _; rotate_left; (simp only []; omega)))))
set_option maxRecDepth 100000 in
set_option maxHeartbeats 4000000 in
theorem meet_c (v m lo hi xv xm xlo xhi : Nat) (sl sh xsl xsh : Int) (w : World) (hr : Rg ⟨⟨v, m⟩, ⟨lo, hi, sl, sh⟩⟩) (hx : Rg ⟨⟨xv, xm⟩, ⟨xlo, xhi, xsl, xsh⟩⟩) : Calls Try.prog 51 #[.agg #[.int .u64 v, .int .u64 m, .int .u64 lo, .int .u64 hi, .int .i64 sl, .int .i64 sh], .agg #[.int .u64 xv, .int .u64 xm, .int .u64 xlo, .int .u64 xhi, .int .i64 xsl, .int .i64 xsh]] w (RulePost (scMeetT ⟨⟨v, m⟩, ⟨lo, hi, sl, sh⟩⟩ ⟨⟨xv, xm⟩, ⟨xlo, xhi, xsl, xsh⟩⟩) w) := by
  have hM := fun w => tnMeet v m xv xm w
  obtain ⟨⟨tv, tm⟩, ht⟩ : ∃ r : Tn, r = meetT ⟨v, m⟩ ⟨xv, xm⟩ := ⟨_, rfl⟩
  rw [← ht] at hM
  simp only [Tn.val] at hM
  have hP := fun w => spMeet_c lo hi xlo xhi sl sh xsl xsh w
  obtain ⟨⟨pl, ph, ps, pt⟩, hp⟩ : ∃ r : Sp, r = spMeetV ⟨lo, hi, sl, sh⟩ ⟨xlo, xhi, xsl, xsh⟩ := ⟨_, rfl⟩
  rw [← hp] at hP
  simp only [Sp.val] at hP
  have G2 := Lib.hid hM
  have G3 := Lib.hid hP
  have G0 := Lib.hid (fun w => scRight0 v m lo hi sl sh w hr)
  have G1 := Lib.hid (fun w => scRight0 xv xm xlo xhi xsl xsh w hx)
  have HT := Lib.hid ht
  have HP := Lib.hid hp
  have HR0 := Lib.hid (fun h => spMeetRg hr hx h)
  clear hM hP ht hp hr hx
  cases e0 : rightB ⟨⟨v, m⟩, ⟨lo, hi, sl, sh⟩⟩ with
  | false =>
    rw [e0] at G0
    have HE : Hid (scMeetT ⟨⟨v, m⟩, ⟨lo, hi, sl, sh⟩⟩ ⟨⟨xv, xm⟩, ⟨xlo, xhi, xsl, xsh⟩⟩ = none) := Lib.hid (by unfold scMeetT; rw [if_neg (by simp [e0])])
    clear e0
    go_enter Try.func51, Try.ntmps51
    go_wp2_with fail
    refine (G2.out _).mono ?_
    rintro e w8 ⟨rfl, hb8⟩
    have hA : w8.heap[w.heap.size]? = some (.cells #[.int .u64 v, .int .u64 m, .int .u64 lo, .int .u64 hi, .int .i64 sl, .int .i64 sh] 28) := hb8.heap (by repeat (first | (with_reducible refine al_eq _ _ _ ?_; (simp only [size_alloc]; done)) | with_reducible refine al_keep ?_ _ | with_reducible refine dr_keep ?_)) (by simp)
    have hX : w8.heap[w.heap.size + 1]? = some (.cells #[.int .u64 xv, .int .u64 xm, .int .u64 xlo, .int .u64 xhi, .int .i64 xsl, .int .i64 xsh] 28) := hb8.heap (by repeat (first | (with_reducible refine al_eq _ _ _ ?_; (simp only [size_alloc]; done)) | with_reducible refine al_keep ?_ _ | with_reducible refine dr_keep ?_)) (by simp)
    have hR : w8.heap[w.heap.size + 1 + 1]? = some (.cells #[.int .u64 0, .int .u64 0, .int .u64 0, .int .u64 0, .int .i64 0, .int .i64 0] 28) := hb8.heap (by repeat (first | (with_reducible refine al_eq _ _ _ ?_; (simp only [size_alloc]; done)) | with_reducible refine al_keep ?_ _ | with_reducible refine dr_keep ?_)) (by simp)
    obtain ⟨cA0, cA1, cA2, cA3, cA4, cA5⟩ := c6_of hA
    have zA := lt_of hA
    obtain ⟨cX0, cX1, cX2, cX3, cX4, cX5⟩ := c6_of hX
    have zX := lt_of hX
    obtain ⟨cR0, cR1, cR2, cR3, cR4, cR5⟩ := c6_of hR
    obtain ⟨fR0, fR1, fR2, fR3, fR4, fR5⟩ := f6_of hR
    have zR := lt_of hR
    have HB : Hid (But [] w w8) := Lib.hid ((by repeat (first | with_reducible exact But.refl _ _ | with_reducible refine But.drew ?_ | with_reducible refine But.alloc ?_ _) : But [] w _).trans hb8 (by simp))
    have HA := Lib.hid hA
    have HX := Lib.hid hX
    have HR := Lib.hid hR
    clear hA hX hR hb8
    go_upto_region 2 with (fail)
    generalize hw : World.alloc w8 _ = w9
    have hA : w9.heap[w.heap.size]? = some (.cells #[.int .u64 v, .int .u64 m, .int .u64 lo, .int .u64 hi, .int .i64 sl, .int .i64 sh] 28) := by rw [← hw]; exact al_keep HA.out _
    have hX : w9.heap[w.heap.size + 1]? = some (.cells #[.int .u64 xv, .int .u64 xm, .int .u64 xlo, .int .u64 xhi, .int .i64 xsl, .int .i64 xsh] 28) := by rw [← hw]; exact al_keep HX.out _
    have hR : w9.heap[w.heap.size + 1 + 1]? = some (.cells #[.int .u64 0, .int .u64 0, .int .u64 0, .int .u64 0, .int .i64 0, .int .i64 0] 28) := by rw [← hw]; exact al_keep HR.out _
    have hT : w9.heap[w8.heap.size]? = some (.cells #[.int .u64 tv, .int .u64 tm] 24) := by rw [← hw]; exact al_at _ _
    have HB : Hid (But [] w w9) := Lib.hid (by rw [← hw]; exact HB.out.alloc _)
    clear hw
    clear zA zX zR cA0 cA1 cA2 cA3 cA4 cA5 cX0 cX1 cX2 cX3 cX4 cX5 cR0 cR1 cR2 cR3 cR4 cR5 fR0 fR1 fR2 fR3 fR4 fR5
    obtain ⟨cA0, cA1, cA2, cA3, cA4, cA5⟩ := c6_of hA
    have zA := lt_of hA
    obtain ⟨cX0, cX1, cX2, cX3, cX4, cX5⟩ := c6_of hX
    have zX := lt_of hX
    obtain ⟨cR0, cR1, cR2, cR3, cR4, cR5⟩ := c6_of hR
    obtain ⟨fR0, fR1, fR2, fR3, fR4, fR5⟩ := f6_of hR
    have zR := lt_of hR
    obtain ⟨cT0, cT1⟩ := c2_of hT
    have zT := lt_of hT
    have HA := Lib.hid hA
    have HX := Lib.hid hX
    have HR := Lib.hid hR
    have HT := Lib.hid hT
    clear hA hX hR hT
    go_wp2_with fail
    refine (G3.out _).mono ?_
    rintro e w10 ⟨rfl, hb10⟩
    have hA : w10.heap[w.heap.size]? = some (.cells #[.int .u64 v, .int .u64 m, .int .u64 lo, .int .u64 hi, .int .i64 sl, .int .i64 sh] 28) := hb10.heap (HA.out) (by simp)
    have hX : w10.heap[w.heap.size + 1]? = some (.cells #[.int .u64 xv, .int .u64 xm, .int .u64 xlo, .int .u64 xhi, .int .i64 xsl, .int .i64 xsh] 28) := hb10.heap (HX.out) (by simp)
    have hR : w10.heap[w.heap.size + 1 + 1]? = some (.cells #[.int .u64 0, .int .u64 0, .int .u64 0, .int .u64 0, .int .i64 0, .int .i64 0] 28) := hb10.heap (HR.out) (by simp)
    have hT : w10.heap[w8.heap.size]? = some (.cells #[.int .u64 tv, .int .u64 tm] 24) := hb10.heap (HT.out) (by simp)
    clear zA zX zR zT
    clear cA0 cA1 cA2 cA3 cA4 cA5 cX0 cX1 cX2 cX3 cX4 cX5 cR0 cR1 cR2 cR3 cR4 cR5 cT0 cT1
    clear fR0 fR1 fR2 fR3 fR4 fR5
    obtain ⟨cA0, cA1, cA2, cA3, cA4, cA5⟩ := c6_of hA
    have zA := lt_of hA
    obtain ⟨cX0, cX1, cX2, cX3, cX4, cX5⟩ := c6_of hX
    have zX := lt_of hX
    obtain ⟨cR0, cR1, cR2, cR3, cR4, cR5⟩ := c6_of hR
    obtain ⟨fR0, fR1, fR2, fR3, fR4, fR5⟩ := f6_of hR
    have zR := lt_of hR
    obtain ⟨cT0, cT1⟩ := c2_of hT
    have zT := lt_of hT
    have HB : Hid (But [] w w10) := Lib.hid ((HB.out).trans hb10 (by simp))
    have HA := Lib.hid hA
    have HX := Lib.hid hX
    have HR := Lib.hid hR
    have HT := Lib.hid hT
    clear hA hX hR hT hb10
    go_upto_region 3 with (fail)
    generalize hw : World.alloc w10 _ = w11
    have hA : w11.heap[w.heap.size]? = some (.cells #[.int .u64 v, .int .u64 m, .int .u64 lo, .int .u64 hi, .int .i64 sl, .int .i64 sh] 28) := by rw [← hw]; exact al_keep HA.out _
    have hX : w11.heap[w.heap.size + 1]? = some (.cells #[.int .u64 xv, .int .u64 xm, .int .u64 xlo, .int .u64 xhi, .int .i64 xsl, .int .i64 xsh] 28) := by rw [← hw]; exact al_keep HX.out _
    have hR : w11.heap[w.heap.size + 1 + 1]? = some (.cells #[.int .u64 0, .int .u64 0, .int .u64 0, .int .u64 0, .int .i64 0, .int .i64 0] 28) := by rw [← hw]; exact al_keep HR.out _
    have hT : w11.heap[w8.heap.size]? = some (.cells #[.int .u64 tv, .int .u64 tm] 24) := by rw [← hw]; exact al_keep HT.out _
    have hU : w11.heap[w10.heap.size]? = some (.cells #[.int .u64 pl, .int .u64 ph, .int .i64 ps, .int .i64 pt] 26) := by rw [← hw]; exact al_at _ _
    have HB : Hid (But [] w w11) := Lib.hid (by rw [← hw]; exact HB.out.alloc _)
    clear hw
    clear zA zX zR zT cA0 cA1 cA2 cA3 cA4 cA5 cX0 cX1 cX2 cX3 cX4 cX5 cR0 cR1 cR2 cR3 cR4 cR5 cT0 cT1 fR0 fR1 fR2 fR3 fR4 fR5
    obtain ⟨cA0, cA1, cA2, cA3, cA4, cA5⟩ := c6_of hA
    have zA := lt_of hA
    obtain ⟨cX0, cX1, cX2, cX3, cX4, cX5⟩ := c6_of hX
    have zX := lt_of hX
    obtain ⟨cR0, cR1, cR2, cR3, cR4, cR5⟩ := c6_of hR
    obtain ⟨fR0, fR1, fR2, fR3, fR4, fR5⟩ := f6_of hR
    have zR := lt_of hR
    obtain ⟨cT0, cT1⟩ := c2_of hT
    have zT := lt_of hT
    obtain ⟨cU0, cU1, cU2, cU3⟩ := c4_of hU
    have zU := lt_of hU
    have HA := Lib.hid hA
    have HX := Lib.hid hX
    have HR := Lib.hid hR
    have HT := Lib.hid hT
    have HU := Lib.hid hU
    clear hA hX hR hT hU
    go_wp2_with fail
    refine (G0.out _).mono ?_
    rintro e w12 ⟨rfl, hb12⟩
    have hA : w12.heap[w.heap.size]? = some (.cells #[.int .u64 v, .int .u64 m, .int .u64 lo, .int .u64 hi, .int .i64 sl, .int .i64 sh] 28) := hb12.heap (HA.out) (by simp)
    have hX : w12.heap[w.heap.size + 1]? = some (.cells #[.int .u64 xv, .int .u64 xm, .int .u64 xlo, .int .u64 xhi, .int .i64 xsl, .int .i64 xsh] 28) := hb12.heap (HX.out) (by simp)
    have hR : w12.heap[w.heap.size + 1 + 1]? = some (.cells #[.int .u64 0, .int .u64 0, .int .u64 0, .int .u64 0, .int .i64 0, .int .i64 0] 28) := hb12.heap (HR.out) (by simp)
    have hT : w12.heap[w8.heap.size]? = some (.cells #[.int .u64 tv, .int .u64 tm] 24) := hb12.heap (HT.out) (by simp)
    have hU : w12.heap[w10.heap.size]? = some (.cells #[.int .u64 pl, .int .u64 ph, .int .i64 ps, .int .i64 pt] 26) := hb12.heap (HU.out) (by simp)
    clear zA zX zR zT zU
    clear cA0 cA1 cA2 cA3 cA4 cA5 cX0 cX1 cX2 cX3 cX4 cX5 cR0 cR1 cR2 cR3 cR4 cR5 cT0 cT1 cU0 cU1 cU2 cU3
    clear fR0 fR1 fR2 fR3 fR4 fR5
    obtain ⟨cA0, cA1, cA2, cA3, cA4, cA5⟩ := c6_of hA
    have zA := lt_of hA
    obtain ⟨cX0, cX1, cX2, cX3, cX4, cX5⟩ := c6_of hX
    have zX := lt_of hX
    obtain ⟨cR0, cR1, cR2, cR3, cR4, cR5⟩ := c6_of hR
    obtain ⟨fR0, fR1, fR2, fR3, fR4, fR5⟩ := f6_of hR
    have zR := lt_of hR
    obtain ⟨cT0, cT1⟩ := c2_of hT
    have zT := lt_of hT
    obtain ⟨cU0, cU1, cU2, cU3⟩ := c4_of hU
    have zU := lt_of hU
    have HB : Hid (But [] w w12) := Lib.hid ((HB.out).trans hb12 (by simp))
    have HA := Lib.hid hA
    have HX := Lib.hid hX
    have HR := Lib.hid hR
    have HT := Lib.hid hT
    have HU := Lib.hid hU
    clear hA hX hR hT hU hb12
    go_wp2_with fail
    exact bodyPost_ret (v := .tuple #[.agg #[.int .u64 0, .int .u64 0, .int .u64 0, .int .u64 0, .int .i64 0, .int .i64 0], .bool false]) (by simp [results, Try.results51, go_sem, cR0, cR1, cR2, cR3, cR4, cR5]) rfl (RulePost.mk (zeroSc) (by rw [HE.out]; rfl) (fun d hd => by rw [HE.out] at hd; cases hd) (by
    repeat (first | with_reducible exact HB.out | with_reducible refine But.alloc ?_ _ | (with_reducible refine But.setCell ?_ (.inr ?_) _; rotate_left; (simp only []; omega)))))
  | true =>
    rw [e0] at G0
    cases e1 : rightB ⟨⟨xv, xm⟩, ⟨xlo, xhi, xsl, xsh⟩⟩ with
    | false =>
      rw [e1] at G1
      have HE : Hid (scMeetT ⟨⟨v, m⟩, ⟨lo, hi, sl, sh⟩⟩ ⟨⟨xv, xm⟩, ⟨xlo, xhi, xsl, xsh⟩⟩ = none) := Lib.hid (by unfold scMeetT; rw [if_neg (by simp [e1])])
      clear e0 e1
      go_enter Try.func51, Try.ntmps51
      go_wp2_with fail
      refine (G2.out _).mono ?_
      rintro e w8 ⟨rfl, hb8⟩
      have hA : w8.heap[w.heap.size]? = some (.cells #[.int .u64 v, .int .u64 m, .int .u64 lo, .int .u64 hi, .int .i64 sl, .int .i64 sh] 28) := hb8.heap (by repeat (first | (with_reducible refine al_eq _ _ _ ?_; (simp only [size_alloc]; done)) | with_reducible refine al_keep ?_ _ | with_reducible refine dr_keep ?_)) (by simp)
      have hX : w8.heap[w.heap.size + 1]? = some (.cells #[.int .u64 xv, .int .u64 xm, .int .u64 xlo, .int .u64 xhi, .int .i64 xsl, .int .i64 xsh] 28) := hb8.heap (by repeat (first | (with_reducible refine al_eq _ _ _ ?_; (simp only [size_alloc]; done)) | with_reducible refine al_keep ?_ _ | with_reducible refine dr_keep ?_)) (by simp)
      have hR : w8.heap[w.heap.size + 1 + 1]? = some (.cells #[.int .u64 0, .int .u64 0, .int .u64 0, .int .u64 0, .int .i64 0, .int .i64 0] 28) := hb8.heap (by repeat (first | (with_reducible refine al_eq _ _ _ ?_; (simp only [size_alloc]; done)) | with_reducible refine al_keep ?_ _ | with_reducible refine dr_keep ?_)) (by simp)
      obtain ⟨cA0, cA1, cA2, cA3, cA4, cA5⟩ := c6_of hA
      have zA := lt_of hA
      obtain ⟨cX0, cX1, cX2, cX3, cX4, cX5⟩ := c6_of hX
      have zX := lt_of hX
      obtain ⟨cR0, cR1, cR2, cR3, cR4, cR5⟩ := c6_of hR
      obtain ⟨fR0, fR1, fR2, fR3, fR4, fR5⟩ := f6_of hR
      have zR := lt_of hR
      have HB : Hid (But [] w w8) := Lib.hid ((by repeat (first | with_reducible exact But.refl _ _ | with_reducible refine But.drew ?_ | with_reducible refine But.alloc ?_ _) : But [] w _).trans hb8 (by simp))
      have HA := Lib.hid hA
      have HX := Lib.hid hX
      have HR := Lib.hid hR
      clear hA hX hR hb8
      go_upto_region 2 with (fail)
      generalize hw : World.alloc w8 _ = w9
      have hA : w9.heap[w.heap.size]? = some (.cells #[.int .u64 v, .int .u64 m, .int .u64 lo, .int .u64 hi, .int .i64 sl, .int .i64 sh] 28) := by rw [← hw]; exact al_keep HA.out _
      have hX : w9.heap[w.heap.size + 1]? = some (.cells #[.int .u64 xv, .int .u64 xm, .int .u64 xlo, .int .u64 xhi, .int .i64 xsl, .int .i64 xsh] 28) := by rw [← hw]; exact al_keep HX.out _
      have hR : w9.heap[w.heap.size + 1 + 1]? = some (.cells #[.int .u64 0, .int .u64 0, .int .u64 0, .int .u64 0, .int .i64 0, .int .i64 0] 28) := by rw [← hw]; exact al_keep HR.out _
      have hT : w9.heap[w8.heap.size]? = some (.cells #[.int .u64 tv, .int .u64 tm] 24) := by rw [← hw]; exact al_at _ _
      have HB : Hid (But [] w w9) := Lib.hid (by rw [← hw]; exact HB.out.alloc _)
      clear hw
      clear zA zX zR cA0 cA1 cA2 cA3 cA4 cA5 cX0 cX1 cX2 cX3 cX4 cX5 cR0 cR1 cR2 cR3 cR4 cR5 fR0 fR1 fR2 fR3 fR4 fR5
      obtain ⟨cA0, cA1, cA2, cA3, cA4, cA5⟩ := c6_of hA
      have zA := lt_of hA
      obtain ⟨cX0, cX1, cX2, cX3, cX4, cX5⟩ := c6_of hX
      have zX := lt_of hX
      obtain ⟨cR0, cR1, cR2, cR3, cR4, cR5⟩ := c6_of hR
      obtain ⟨fR0, fR1, fR2, fR3, fR4, fR5⟩ := f6_of hR
      have zR := lt_of hR
      obtain ⟨cT0, cT1⟩ := c2_of hT
      have zT := lt_of hT
      have HA := Lib.hid hA
      have HX := Lib.hid hX
      have HR := Lib.hid hR
      have HT := Lib.hid hT
      clear hA hX hR hT
      go_wp2_with fail
      refine (G3.out _).mono ?_
      rintro e w10 ⟨rfl, hb10⟩
      have hA : w10.heap[w.heap.size]? = some (.cells #[.int .u64 v, .int .u64 m, .int .u64 lo, .int .u64 hi, .int .i64 sl, .int .i64 sh] 28) := hb10.heap (HA.out) (by simp)
      have hX : w10.heap[w.heap.size + 1]? = some (.cells #[.int .u64 xv, .int .u64 xm, .int .u64 xlo, .int .u64 xhi, .int .i64 xsl, .int .i64 xsh] 28) := hb10.heap (HX.out) (by simp)
      have hR : w10.heap[w.heap.size + 1 + 1]? = some (.cells #[.int .u64 0, .int .u64 0, .int .u64 0, .int .u64 0, .int .i64 0, .int .i64 0] 28) := hb10.heap (HR.out) (by simp)
      have hT : w10.heap[w8.heap.size]? = some (.cells #[.int .u64 tv, .int .u64 tm] 24) := hb10.heap (HT.out) (by simp)
      clear zA zX zR zT
      clear cA0 cA1 cA2 cA3 cA4 cA5 cX0 cX1 cX2 cX3 cX4 cX5 cR0 cR1 cR2 cR3 cR4 cR5 cT0 cT1
      clear fR0 fR1 fR2 fR3 fR4 fR5
      obtain ⟨cA0, cA1, cA2, cA3, cA4, cA5⟩ := c6_of hA
      have zA := lt_of hA
      obtain ⟨cX0, cX1, cX2, cX3, cX4, cX5⟩ := c6_of hX
      have zX := lt_of hX
      obtain ⟨cR0, cR1, cR2, cR3, cR4, cR5⟩ := c6_of hR
      obtain ⟨fR0, fR1, fR2, fR3, fR4, fR5⟩ := f6_of hR
      have zR := lt_of hR
      obtain ⟨cT0, cT1⟩ := c2_of hT
      have zT := lt_of hT
      have HB : Hid (But [] w w10) := Lib.hid ((HB.out).trans hb10 (by simp))
      have HA := Lib.hid hA
      have HX := Lib.hid hX
      have HR := Lib.hid hR
      have HT := Lib.hid hT
      clear hA hX hR hT hb10
      go_upto_region 3 with (fail)
      generalize hw : World.alloc w10 _ = w11
      have hA : w11.heap[w.heap.size]? = some (.cells #[.int .u64 v, .int .u64 m, .int .u64 lo, .int .u64 hi, .int .i64 sl, .int .i64 sh] 28) := by rw [← hw]; exact al_keep HA.out _
      have hX : w11.heap[w.heap.size + 1]? = some (.cells #[.int .u64 xv, .int .u64 xm, .int .u64 xlo, .int .u64 xhi, .int .i64 xsl, .int .i64 xsh] 28) := by rw [← hw]; exact al_keep HX.out _
      have hR : w11.heap[w.heap.size + 1 + 1]? = some (.cells #[.int .u64 0, .int .u64 0, .int .u64 0, .int .u64 0, .int .i64 0, .int .i64 0] 28) := by rw [← hw]; exact al_keep HR.out _
      have hT : w11.heap[w8.heap.size]? = some (.cells #[.int .u64 tv, .int .u64 tm] 24) := by rw [← hw]; exact al_keep HT.out _
      have hU : w11.heap[w10.heap.size]? = some (.cells #[.int .u64 pl, .int .u64 ph, .int .i64 ps, .int .i64 pt] 26) := by rw [← hw]; exact al_at _ _
      have HB : Hid (But [] w w11) := Lib.hid (by rw [← hw]; exact HB.out.alloc _)
      clear hw
      clear zA zX zR zT cA0 cA1 cA2 cA3 cA4 cA5 cX0 cX1 cX2 cX3 cX4 cX5 cR0 cR1 cR2 cR3 cR4 cR5 cT0 cT1 fR0 fR1 fR2 fR3 fR4 fR5
      obtain ⟨cA0, cA1, cA2, cA3, cA4, cA5⟩ := c6_of hA
      have zA := lt_of hA
      obtain ⟨cX0, cX1, cX2, cX3, cX4, cX5⟩ := c6_of hX
      have zX := lt_of hX
      obtain ⟨cR0, cR1, cR2, cR3, cR4, cR5⟩ := c6_of hR
      obtain ⟨fR0, fR1, fR2, fR3, fR4, fR5⟩ := f6_of hR
      have zR := lt_of hR
      obtain ⟨cT0, cT1⟩ := c2_of hT
      have zT := lt_of hT
      obtain ⟨cU0, cU1, cU2, cU3⟩ := c4_of hU
      have zU := lt_of hU
      have HA := Lib.hid hA
      have HX := Lib.hid hX
      have HR := Lib.hid hR
      have HT := Lib.hid hT
      have HU := Lib.hid hU
      clear hA hX hR hT hU
      go_wp2_with fail
      refine (G0.out _).mono ?_
      rintro e w12 ⟨rfl, hb12⟩
      have hA : w12.heap[w.heap.size]? = some (.cells #[.int .u64 v, .int .u64 m, .int .u64 lo, .int .u64 hi, .int .i64 sl, .int .i64 sh] 28) := hb12.heap (HA.out) (by simp)
      have hX : w12.heap[w.heap.size + 1]? = some (.cells #[.int .u64 xv, .int .u64 xm, .int .u64 xlo, .int .u64 xhi, .int .i64 xsl, .int .i64 xsh] 28) := hb12.heap (HX.out) (by simp)
      have hR : w12.heap[w.heap.size + 1 + 1]? = some (.cells #[.int .u64 0, .int .u64 0, .int .u64 0, .int .u64 0, .int .i64 0, .int .i64 0] 28) := hb12.heap (HR.out) (by simp)
      have hT : w12.heap[w8.heap.size]? = some (.cells #[.int .u64 tv, .int .u64 tm] 24) := hb12.heap (HT.out) (by simp)
      have hU : w12.heap[w10.heap.size]? = some (.cells #[.int .u64 pl, .int .u64 ph, .int .i64 ps, .int .i64 pt] 26) := hb12.heap (HU.out) (by simp)
      clear zA zX zR zT zU
      clear cA0 cA1 cA2 cA3 cA4 cA5 cX0 cX1 cX2 cX3 cX4 cX5 cR0 cR1 cR2 cR3 cR4 cR5 cT0 cT1 cU0 cU1 cU2 cU3
      clear fR0 fR1 fR2 fR3 fR4 fR5
      obtain ⟨cA0, cA1, cA2, cA3, cA4, cA5⟩ := c6_of hA
      have zA := lt_of hA
      obtain ⟨cX0, cX1, cX2, cX3, cX4, cX5⟩ := c6_of hX
      have zX := lt_of hX
      obtain ⟨cR0, cR1, cR2, cR3, cR4, cR5⟩ := c6_of hR
      obtain ⟨fR0, fR1, fR2, fR3, fR4, fR5⟩ := f6_of hR
      have zR := lt_of hR
      obtain ⟨cT0, cT1⟩ := c2_of hT
      have zT := lt_of hT
      obtain ⟨cU0, cU1, cU2, cU3⟩ := c4_of hU
      have zU := lt_of hU
      have HB : Hid (But [] w w12) := Lib.hid ((HB.out).trans hb12 (by simp))
      have HA := Lib.hid hA
      have HX := Lib.hid hX
      have HR := Lib.hid hR
      have HT := Lib.hid hT
      have HU := Lib.hid hU
      clear hA hX hR hT hU hb12
      go_wp2_with fail
      refine (G1.out _).mono ?_
      rintro e w13 ⟨rfl, hb13⟩
      have hA : w13.heap[w.heap.size]? = some (.cells #[.int .u64 v, .int .u64 m, .int .u64 lo, .int .u64 hi, .int .i64 sl, .int .i64 sh] 28) := hb13.heap (HA.out) (by simp)
      have hX : w13.heap[w.heap.size + 1]? = some (.cells #[.int .u64 xv, .int .u64 xm, .int .u64 xlo, .int .u64 xhi, .int .i64 xsl, .int .i64 xsh] 28) := hb13.heap (HX.out) (by simp)
      have hR : w13.heap[w.heap.size + 1 + 1]? = some (.cells #[.int .u64 0, .int .u64 0, .int .u64 0, .int .u64 0, .int .i64 0, .int .i64 0] 28) := hb13.heap (HR.out) (by simp)
      have hT : w13.heap[w8.heap.size]? = some (.cells #[.int .u64 tv, .int .u64 tm] 24) := hb13.heap (HT.out) (by simp)
      have hU : w13.heap[w10.heap.size]? = some (.cells #[.int .u64 pl, .int .u64 ph, .int .i64 ps, .int .i64 pt] 26) := hb13.heap (HU.out) (by simp)
      clear zA zX zR zT zU
      clear cA0 cA1 cA2 cA3 cA4 cA5 cX0 cX1 cX2 cX3 cX4 cX5 cR0 cR1 cR2 cR3 cR4 cR5 cT0 cT1 cU0 cU1 cU2 cU3
      clear fR0 fR1 fR2 fR3 fR4 fR5
      obtain ⟨cA0, cA1, cA2, cA3, cA4, cA5⟩ := c6_of hA
      have zA := lt_of hA
      obtain ⟨cX0, cX1, cX2, cX3, cX4, cX5⟩ := c6_of hX
      have zX := lt_of hX
      obtain ⟨cR0, cR1, cR2, cR3, cR4, cR5⟩ := c6_of hR
      obtain ⟨fR0, fR1, fR2, fR3, fR4, fR5⟩ := f6_of hR
      have zR := lt_of hR
      obtain ⟨cT0, cT1⟩ := c2_of hT
      have zT := lt_of hT
      obtain ⟨cU0, cU1, cU2, cU3⟩ := c4_of hU
      have zU := lt_of hU
      have HB : Hid (But [] w w13) := Lib.hid ((HB.out).trans hb13 (by simp))
      have HA := Lib.hid hA
      have HX := Lib.hid hX
      have HR := Lib.hid hR
      have HT := Lib.hid hT
      have HU := Lib.hid hU
      clear hA hX hR hT hU hb13
      go_wp2_with fail
      exact bodyPost_ret (v := .tuple #[.agg #[.int .u64 0, .int .u64 0, .int .u64 0, .int .u64 0, .int .i64 0, .int .i64 0], .bool false]) (by simp [results, Try.results51, go_sem, cR0, cR1, cR2, cR3, cR4, cR5]) rfl (RulePost.mk (zeroSc) (by rw [HE.out]; rfl) (fun d hd => by rw [HE.out] at hd; cases hd) (by
    repeat (first | with_reducible exact HB.out | with_reducible refine But.alloc ?_ _ | (with_reducible refine But.setCell ?_ (.inr ?_) _; rotate_left; (simp only []; omega)))))
    | true =>
      rw [e1] at G1
      cases e2 : meetB ⟨v, m⟩ ⟨xv, xm⟩ with
      | false =>
        rw [e2] at G2
        have HE : Hid (scMeetT ⟨⟨v, m⟩, ⟨lo, hi, sl, sh⟩⟩ ⟨⟨xv, xm⟩, ⟨xlo, xhi, xsl, xsh⟩⟩ = none) := Lib.hid (by unfold scMeetT; rw [if_neg (by simp [e2])])
        clear e0 e1 e2
        go_enter Try.func51, Try.ntmps51
        go_wp2_with fail
        refine (G2.out _).mono ?_
        rintro e w8 ⟨rfl, hb8⟩
        have hA : w8.heap[w.heap.size]? = some (.cells #[.int .u64 v, .int .u64 m, .int .u64 lo, .int .u64 hi, .int .i64 sl, .int .i64 sh] 28) := hb8.heap (by repeat (first | (with_reducible refine al_eq _ _ _ ?_; (simp only [size_alloc]; done)) | with_reducible refine al_keep ?_ _ | with_reducible refine dr_keep ?_)) (by simp)
        have hX : w8.heap[w.heap.size + 1]? = some (.cells #[.int .u64 xv, .int .u64 xm, .int .u64 xlo, .int .u64 xhi, .int .i64 xsl, .int .i64 xsh] 28) := hb8.heap (by repeat (first | (with_reducible refine al_eq _ _ _ ?_; (simp only [size_alloc]; done)) | with_reducible refine al_keep ?_ _ | with_reducible refine dr_keep ?_)) (by simp)
        have hR : w8.heap[w.heap.size + 1 + 1]? = some (.cells #[.int .u64 0, .int .u64 0, .int .u64 0, .int .u64 0, .int .i64 0, .int .i64 0] 28) := hb8.heap (by repeat (first | (with_reducible refine al_eq _ _ _ ?_; (simp only [size_alloc]; done)) | with_reducible refine al_keep ?_ _ | with_reducible refine dr_keep ?_)) (by simp)
        obtain ⟨cA0, cA1, cA2, cA3, cA4, cA5⟩ := c6_of hA
        have zA := lt_of hA
        obtain ⟨cX0, cX1, cX2, cX3, cX4, cX5⟩ := c6_of hX
        have zX := lt_of hX
        obtain ⟨cR0, cR1, cR2, cR3, cR4, cR5⟩ := c6_of hR
        obtain ⟨fR0, fR1, fR2, fR3, fR4, fR5⟩ := f6_of hR
        have zR := lt_of hR
        have HB : Hid (But [] w w8) := Lib.hid ((by repeat (first | with_reducible exact But.refl _ _ | with_reducible refine But.drew ?_ | with_reducible refine But.alloc ?_ _) : But [] w _).trans hb8 (by simp))
        have HA := Lib.hid hA
        have HX := Lib.hid hX
        have HR := Lib.hid hR
        clear hA hX hR hb8
        go_upto_region 2 with (fail)
        generalize hw : World.alloc w8 _ = w9
        have hA : w9.heap[w.heap.size]? = some (.cells #[.int .u64 v, .int .u64 m, .int .u64 lo, .int .u64 hi, .int .i64 sl, .int .i64 sh] 28) := by rw [← hw]; exact al_keep HA.out _
        have hX : w9.heap[w.heap.size + 1]? = some (.cells #[.int .u64 xv, .int .u64 xm, .int .u64 xlo, .int .u64 xhi, .int .i64 xsl, .int .i64 xsh] 28) := by rw [← hw]; exact al_keep HX.out _
        have hR : w9.heap[w.heap.size + 1 + 1]? = some (.cells #[.int .u64 0, .int .u64 0, .int .u64 0, .int .u64 0, .int .i64 0, .int .i64 0] 28) := by rw [← hw]; exact al_keep HR.out _
        have hT : w9.heap[w8.heap.size]? = some (.cells #[.int .u64 tv, .int .u64 tm] 24) := by rw [← hw]; exact al_at _ _
        have HB : Hid (But [] w w9) := Lib.hid (by rw [← hw]; exact HB.out.alloc _)
        clear hw
        clear zA zX zR cA0 cA1 cA2 cA3 cA4 cA5 cX0 cX1 cX2 cX3 cX4 cX5 cR0 cR1 cR2 cR3 cR4 cR5 fR0 fR1 fR2 fR3 fR4 fR5
        obtain ⟨cA0, cA1, cA2, cA3, cA4, cA5⟩ := c6_of hA
        have zA := lt_of hA
        obtain ⟨cX0, cX1, cX2, cX3, cX4, cX5⟩ := c6_of hX
        have zX := lt_of hX
        obtain ⟨cR0, cR1, cR2, cR3, cR4, cR5⟩ := c6_of hR
        obtain ⟨fR0, fR1, fR2, fR3, fR4, fR5⟩ := f6_of hR
        have zR := lt_of hR
        obtain ⟨cT0, cT1⟩ := c2_of hT
        have zT := lt_of hT
        have HA := Lib.hid hA
        have HX := Lib.hid hX
        have HR := Lib.hid hR
        have HT := Lib.hid hT
        clear hA hX hR hT
        go_wp2_with fail
        refine (G3.out _).mono ?_
        rintro e w10 ⟨rfl, hb10⟩
        have hA : w10.heap[w.heap.size]? = some (.cells #[.int .u64 v, .int .u64 m, .int .u64 lo, .int .u64 hi, .int .i64 sl, .int .i64 sh] 28) := hb10.heap (HA.out) (by simp)
        have hX : w10.heap[w.heap.size + 1]? = some (.cells #[.int .u64 xv, .int .u64 xm, .int .u64 xlo, .int .u64 xhi, .int .i64 xsl, .int .i64 xsh] 28) := hb10.heap (HX.out) (by simp)
        have hR : w10.heap[w.heap.size + 1 + 1]? = some (.cells #[.int .u64 0, .int .u64 0, .int .u64 0, .int .u64 0, .int .i64 0, .int .i64 0] 28) := hb10.heap (HR.out) (by simp)
        have hT : w10.heap[w8.heap.size]? = some (.cells #[.int .u64 tv, .int .u64 tm] 24) := hb10.heap (HT.out) (by simp)
        clear zA zX zR zT
        clear cA0 cA1 cA2 cA3 cA4 cA5 cX0 cX1 cX2 cX3 cX4 cX5 cR0 cR1 cR2 cR3 cR4 cR5 cT0 cT1
        clear fR0 fR1 fR2 fR3 fR4 fR5
        obtain ⟨cA0, cA1, cA2, cA3, cA4, cA5⟩ := c6_of hA
        have zA := lt_of hA
        obtain ⟨cX0, cX1, cX2, cX3, cX4, cX5⟩ := c6_of hX
        have zX := lt_of hX
        obtain ⟨cR0, cR1, cR2, cR3, cR4, cR5⟩ := c6_of hR
        obtain ⟨fR0, fR1, fR2, fR3, fR4, fR5⟩ := f6_of hR
        have zR := lt_of hR
        obtain ⟨cT0, cT1⟩ := c2_of hT
        have zT := lt_of hT
        have HB : Hid (But [] w w10) := Lib.hid ((HB.out).trans hb10 (by simp))
        have HA := Lib.hid hA
        have HX := Lib.hid hX
        have HR := Lib.hid hR
        have HT := Lib.hid hT
        clear hA hX hR hT hb10
        go_upto_region 3 with (fail)
        generalize hw : World.alloc w10 _ = w11
        have hA : w11.heap[w.heap.size]? = some (.cells #[.int .u64 v, .int .u64 m, .int .u64 lo, .int .u64 hi, .int .i64 sl, .int .i64 sh] 28) := by rw [← hw]; exact al_keep HA.out _
        have hX : w11.heap[w.heap.size + 1]? = some (.cells #[.int .u64 xv, .int .u64 xm, .int .u64 xlo, .int .u64 xhi, .int .i64 xsl, .int .i64 xsh] 28) := by rw [← hw]; exact al_keep HX.out _
        have hR : w11.heap[w.heap.size + 1 + 1]? = some (.cells #[.int .u64 0, .int .u64 0, .int .u64 0, .int .u64 0, .int .i64 0, .int .i64 0] 28) := by rw [← hw]; exact al_keep HR.out _
        have hT : w11.heap[w8.heap.size]? = some (.cells #[.int .u64 tv, .int .u64 tm] 24) := by rw [← hw]; exact al_keep HT.out _
        have hU : w11.heap[w10.heap.size]? = some (.cells #[.int .u64 pl, .int .u64 ph, .int .i64 ps, .int .i64 pt] 26) := by rw [← hw]; exact al_at _ _
        have HB : Hid (But [] w w11) := Lib.hid (by rw [← hw]; exact HB.out.alloc _)
        clear hw
        clear zA zX zR zT cA0 cA1 cA2 cA3 cA4 cA5 cX0 cX1 cX2 cX3 cX4 cX5 cR0 cR1 cR2 cR3 cR4 cR5 cT0 cT1 fR0 fR1 fR2 fR3 fR4 fR5
        obtain ⟨cA0, cA1, cA2, cA3, cA4, cA5⟩ := c6_of hA
        have zA := lt_of hA
        obtain ⟨cX0, cX1, cX2, cX3, cX4, cX5⟩ := c6_of hX
        have zX := lt_of hX
        obtain ⟨cR0, cR1, cR2, cR3, cR4, cR5⟩ := c6_of hR
        obtain ⟨fR0, fR1, fR2, fR3, fR4, fR5⟩ := f6_of hR
        have zR := lt_of hR
        obtain ⟨cT0, cT1⟩ := c2_of hT
        have zT := lt_of hT
        obtain ⟨cU0, cU1, cU2, cU3⟩ := c4_of hU
        have zU := lt_of hU
        have HA := Lib.hid hA
        have HX := Lib.hid hX
        have HR := Lib.hid hR
        have HT := Lib.hid hT
        have HU := Lib.hid hU
        clear hA hX hR hT hU
        go_wp2_with fail
        refine (G0.out _).mono ?_
        rintro e w12 ⟨rfl, hb12⟩
        have hA : w12.heap[w.heap.size]? = some (.cells #[.int .u64 v, .int .u64 m, .int .u64 lo, .int .u64 hi, .int .i64 sl, .int .i64 sh] 28) := hb12.heap (HA.out) (by simp)
        have hX : w12.heap[w.heap.size + 1]? = some (.cells #[.int .u64 xv, .int .u64 xm, .int .u64 xlo, .int .u64 xhi, .int .i64 xsl, .int .i64 xsh] 28) := hb12.heap (HX.out) (by simp)
        have hR : w12.heap[w.heap.size + 1 + 1]? = some (.cells #[.int .u64 0, .int .u64 0, .int .u64 0, .int .u64 0, .int .i64 0, .int .i64 0] 28) := hb12.heap (HR.out) (by simp)
        have hT : w12.heap[w8.heap.size]? = some (.cells #[.int .u64 tv, .int .u64 tm] 24) := hb12.heap (HT.out) (by simp)
        have hU : w12.heap[w10.heap.size]? = some (.cells #[.int .u64 pl, .int .u64 ph, .int .i64 ps, .int .i64 pt] 26) := hb12.heap (HU.out) (by simp)
        clear zA zX zR zT zU
        clear cA0 cA1 cA2 cA3 cA4 cA5 cX0 cX1 cX2 cX3 cX4 cX5 cR0 cR1 cR2 cR3 cR4 cR5 cT0 cT1 cU0 cU1 cU2 cU3
        clear fR0 fR1 fR2 fR3 fR4 fR5
        obtain ⟨cA0, cA1, cA2, cA3, cA4, cA5⟩ := c6_of hA
        have zA := lt_of hA
        obtain ⟨cX0, cX1, cX2, cX3, cX4, cX5⟩ := c6_of hX
        have zX := lt_of hX
        obtain ⟨cR0, cR1, cR2, cR3, cR4, cR5⟩ := c6_of hR
        obtain ⟨fR0, fR1, fR2, fR3, fR4, fR5⟩ := f6_of hR
        have zR := lt_of hR
        obtain ⟨cT0, cT1⟩ := c2_of hT
        have zT := lt_of hT
        obtain ⟨cU0, cU1, cU2, cU3⟩ := c4_of hU
        have zU := lt_of hU
        have HB : Hid (But [] w w12) := Lib.hid ((HB.out).trans hb12 (by simp))
        have HA := Lib.hid hA
        have HX := Lib.hid hX
        have HR := Lib.hid hR
        have HT := Lib.hid hT
        have HU := Lib.hid hU
        clear hA hX hR hT hU hb12
        go_wp2_with fail
        refine (G1.out _).mono ?_
        rintro e w13 ⟨rfl, hb13⟩
        have hA : w13.heap[w.heap.size]? = some (.cells #[.int .u64 v, .int .u64 m, .int .u64 lo, .int .u64 hi, .int .i64 sl, .int .i64 sh] 28) := hb13.heap (HA.out) (by simp)
        have hX : w13.heap[w.heap.size + 1]? = some (.cells #[.int .u64 xv, .int .u64 xm, .int .u64 xlo, .int .u64 xhi, .int .i64 xsl, .int .i64 xsh] 28) := hb13.heap (HX.out) (by simp)
        have hR : w13.heap[w.heap.size + 1 + 1]? = some (.cells #[.int .u64 0, .int .u64 0, .int .u64 0, .int .u64 0, .int .i64 0, .int .i64 0] 28) := hb13.heap (HR.out) (by simp)
        have hT : w13.heap[w8.heap.size]? = some (.cells #[.int .u64 tv, .int .u64 tm] 24) := hb13.heap (HT.out) (by simp)
        have hU : w13.heap[w10.heap.size]? = some (.cells #[.int .u64 pl, .int .u64 ph, .int .i64 ps, .int .i64 pt] 26) := hb13.heap (HU.out) (by simp)
        clear zA zX zR zT zU
        clear cA0 cA1 cA2 cA3 cA4 cA5 cX0 cX1 cX2 cX3 cX4 cX5 cR0 cR1 cR2 cR3 cR4 cR5 cT0 cT1 cU0 cU1 cU2 cU3
        clear fR0 fR1 fR2 fR3 fR4 fR5
        obtain ⟨cA0, cA1, cA2, cA3, cA4, cA5⟩ := c6_of hA
        have zA := lt_of hA
        obtain ⟨cX0, cX1, cX2, cX3, cX4, cX5⟩ := c6_of hX
        have zX := lt_of hX
        obtain ⟨cR0, cR1, cR2, cR3, cR4, cR5⟩ := c6_of hR
        obtain ⟨fR0, fR1, fR2, fR3, fR4, fR5⟩ := f6_of hR
        have zR := lt_of hR
        obtain ⟨cT0, cT1⟩ := c2_of hT
        have zT := lt_of hT
        obtain ⟨cU0, cU1, cU2, cU3⟩ := c4_of hU
        have zU := lt_of hU
        have HB : Hid (But [] w w13) := Lib.hid ((HB.out).trans hb13 (by simp))
        have HA := Lib.hid hA
        have HX := Lib.hid hX
        have HR := Lib.hid hR
        have HT := Lib.hid hT
        have HU := Lib.hid hU
        clear hA hX hR hT hU hb13
        go_wp2_with fail
        exact bodyPost_ret (v := .tuple #[.agg #[.int .u64 0, .int .u64 0, .int .u64 0, .int .u64 0, .int .i64 0, .int .i64 0], .bool false]) (by simp [results, Try.results51, go_sem, cR0, cR1, cR2, cR3, cR4, cR5]) rfl (RulePost.mk (zeroSc) (by rw [HE.out]; rfl) (fun d hd => by rw [HE.out] at hd; cases hd) (by
    repeat (first | with_reducible exact HB.out | with_reducible refine But.alloc ?_ _ | (with_reducible refine But.setCell ?_ (.inr ?_) _; rotate_left; (simp only []; omega)))))
      | true =>
        rw [e2] at G2
        cases e3 : spMeetB ⟨lo, hi, sl, sh⟩ ⟨xlo, xhi, xsl, xsh⟩ with
        | false =>
          rw [e3] at G3
          have HE : Hid (scMeetT ⟨⟨v, m⟩, ⟨lo, hi, sl, sh⟩⟩ ⟨⟨xv, xm⟩, ⟨xlo, xhi, xsl, xsh⟩⟩ = none) := Lib.hid (by unfold scMeetT; rw [if_neg (by simp [e3])])
          clear e0 e1 e2 e3
          go_enter Try.func51, Try.ntmps51
          go_wp2_with fail
          refine (G2.out _).mono ?_
          rintro e w8 ⟨rfl, hb8⟩
          have hA : w8.heap[w.heap.size]? = some (.cells #[.int .u64 v, .int .u64 m, .int .u64 lo, .int .u64 hi, .int .i64 sl, .int .i64 sh] 28) := hb8.heap (by repeat (first | (with_reducible refine al_eq _ _ _ ?_; (simp only [size_alloc]; done)) | with_reducible refine al_keep ?_ _ | with_reducible refine dr_keep ?_)) (by simp)
          have hX : w8.heap[w.heap.size + 1]? = some (.cells #[.int .u64 xv, .int .u64 xm, .int .u64 xlo, .int .u64 xhi, .int .i64 xsl, .int .i64 xsh] 28) := hb8.heap (by repeat (first | (with_reducible refine al_eq _ _ _ ?_; (simp only [size_alloc]; done)) | with_reducible refine al_keep ?_ _ | with_reducible refine dr_keep ?_)) (by simp)
          have hR : w8.heap[w.heap.size + 1 + 1]? = some (.cells #[.int .u64 0, .int .u64 0, .int .u64 0, .int .u64 0, .int .i64 0, .int .i64 0] 28) := hb8.heap (by repeat (first | (with_reducible refine al_eq _ _ _ ?_; (simp only [size_alloc]; done)) | with_reducible refine al_keep ?_ _ | with_reducible refine dr_keep ?_)) (by simp)
          obtain ⟨cA0, cA1, cA2, cA3, cA4, cA5⟩ := c6_of hA
          have zA := lt_of hA
          obtain ⟨cX0, cX1, cX2, cX3, cX4, cX5⟩ := c6_of hX
          have zX := lt_of hX
          obtain ⟨cR0, cR1, cR2, cR3, cR4, cR5⟩ := c6_of hR
          obtain ⟨fR0, fR1, fR2, fR3, fR4, fR5⟩ := f6_of hR
          have zR := lt_of hR
          have HB : Hid (But [] w w8) := Lib.hid ((by repeat (first | with_reducible exact But.refl _ _ | with_reducible refine But.drew ?_ | with_reducible refine But.alloc ?_ _) : But [] w _).trans hb8 (by simp))
          have HA := Lib.hid hA
          have HX := Lib.hid hX
          have HR := Lib.hid hR
          clear hA hX hR hb8
          go_upto_region 2 with (fail)
          generalize hw : World.alloc w8 _ = w9
          have hA : w9.heap[w.heap.size]? = some (.cells #[.int .u64 v, .int .u64 m, .int .u64 lo, .int .u64 hi, .int .i64 sl, .int .i64 sh] 28) := by rw [← hw]; exact al_keep HA.out _
          have hX : w9.heap[w.heap.size + 1]? = some (.cells #[.int .u64 xv, .int .u64 xm, .int .u64 xlo, .int .u64 xhi, .int .i64 xsl, .int .i64 xsh] 28) := by rw [← hw]; exact al_keep HX.out _
          have hR : w9.heap[w.heap.size + 1 + 1]? = some (.cells #[.int .u64 0, .int .u64 0, .int .u64 0, .int .u64 0, .int .i64 0, .int .i64 0] 28) := by rw [← hw]; exact al_keep HR.out _
          have hT : w9.heap[w8.heap.size]? = some (.cells #[.int .u64 tv, .int .u64 tm] 24) := by rw [← hw]; exact al_at _ _
          have HB : Hid (But [] w w9) := Lib.hid (by rw [← hw]; exact HB.out.alloc _)
          clear hw
          clear zA zX zR cA0 cA1 cA2 cA3 cA4 cA5 cX0 cX1 cX2 cX3 cX4 cX5 cR0 cR1 cR2 cR3 cR4 cR5 fR0 fR1 fR2 fR3 fR4 fR5
          obtain ⟨cA0, cA1, cA2, cA3, cA4, cA5⟩ := c6_of hA
          have zA := lt_of hA
          obtain ⟨cX0, cX1, cX2, cX3, cX4, cX5⟩ := c6_of hX
          have zX := lt_of hX
          obtain ⟨cR0, cR1, cR2, cR3, cR4, cR5⟩ := c6_of hR
          obtain ⟨fR0, fR1, fR2, fR3, fR4, fR5⟩ := f6_of hR
          have zR := lt_of hR
          obtain ⟨cT0, cT1⟩ := c2_of hT
          have zT := lt_of hT
          have HA := Lib.hid hA
          have HX := Lib.hid hX
          have HR := Lib.hid hR
          have HT := Lib.hid hT
          clear hA hX hR hT
          go_wp2_with fail
          refine (G3.out _).mono ?_
          rintro e w10 ⟨rfl, hb10⟩
          have hA : w10.heap[w.heap.size]? = some (.cells #[.int .u64 v, .int .u64 m, .int .u64 lo, .int .u64 hi, .int .i64 sl, .int .i64 sh] 28) := hb10.heap (HA.out) (by simp)
          have hX : w10.heap[w.heap.size + 1]? = some (.cells #[.int .u64 xv, .int .u64 xm, .int .u64 xlo, .int .u64 xhi, .int .i64 xsl, .int .i64 xsh] 28) := hb10.heap (HX.out) (by simp)
          have hR : w10.heap[w.heap.size + 1 + 1]? = some (.cells #[.int .u64 0, .int .u64 0, .int .u64 0, .int .u64 0, .int .i64 0, .int .i64 0] 28) := hb10.heap (HR.out) (by simp)
          have hT : w10.heap[w8.heap.size]? = some (.cells #[.int .u64 tv, .int .u64 tm] 24) := hb10.heap (HT.out) (by simp)
          clear zA zX zR zT
          clear cA0 cA1 cA2 cA3 cA4 cA5 cX0 cX1 cX2 cX3 cX4 cX5 cR0 cR1 cR2 cR3 cR4 cR5 cT0 cT1
          clear fR0 fR1 fR2 fR3 fR4 fR5
          obtain ⟨cA0, cA1, cA2, cA3, cA4, cA5⟩ := c6_of hA
          have zA := lt_of hA
          obtain ⟨cX0, cX1, cX2, cX3, cX4, cX5⟩ := c6_of hX
          have zX := lt_of hX
          obtain ⟨cR0, cR1, cR2, cR3, cR4, cR5⟩ := c6_of hR
          obtain ⟨fR0, fR1, fR2, fR3, fR4, fR5⟩ := f6_of hR
          have zR := lt_of hR
          obtain ⟨cT0, cT1⟩ := c2_of hT
          have zT := lt_of hT
          have HB : Hid (But [] w w10) := Lib.hid ((HB.out).trans hb10 (by simp))
          have HA := Lib.hid hA
          have HX := Lib.hid hX
          have HR := Lib.hid hR
          have HT := Lib.hid hT
          clear hA hX hR hT hb10
          go_upto_region 3 with (fail)
          generalize hw : World.alloc w10 _ = w11
          have hA : w11.heap[w.heap.size]? = some (.cells #[.int .u64 v, .int .u64 m, .int .u64 lo, .int .u64 hi, .int .i64 sl, .int .i64 sh] 28) := by rw [← hw]; exact al_keep HA.out _
          have hX : w11.heap[w.heap.size + 1]? = some (.cells #[.int .u64 xv, .int .u64 xm, .int .u64 xlo, .int .u64 xhi, .int .i64 xsl, .int .i64 xsh] 28) := by rw [← hw]; exact al_keep HX.out _
          have hR : w11.heap[w.heap.size + 1 + 1]? = some (.cells #[.int .u64 0, .int .u64 0, .int .u64 0, .int .u64 0, .int .i64 0, .int .i64 0] 28) := by rw [← hw]; exact al_keep HR.out _
          have hT : w11.heap[w8.heap.size]? = some (.cells #[.int .u64 tv, .int .u64 tm] 24) := by rw [← hw]; exact al_keep HT.out _
          have hU : w11.heap[w10.heap.size]? = some (.cells #[.int .u64 pl, .int .u64 ph, .int .i64 ps, .int .i64 pt] 26) := by rw [← hw]; exact al_at _ _
          have HB : Hid (But [] w w11) := Lib.hid (by rw [← hw]; exact HB.out.alloc _)
          clear hw
          clear zA zX zR zT cA0 cA1 cA2 cA3 cA4 cA5 cX0 cX1 cX2 cX3 cX4 cX5 cR0 cR1 cR2 cR3 cR4 cR5 cT0 cT1 fR0 fR1 fR2 fR3 fR4 fR5
          obtain ⟨cA0, cA1, cA2, cA3, cA4, cA5⟩ := c6_of hA
          have zA := lt_of hA
          obtain ⟨cX0, cX1, cX2, cX3, cX4, cX5⟩ := c6_of hX
          have zX := lt_of hX
          obtain ⟨cR0, cR1, cR2, cR3, cR4, cR5⟩ := c6_of hR
          obtain ⟨fR0, fR1, fR2, fR3, fR4, fR5⟩ := f6_of hR
          have zR := lt_of hR
          obtain ⟨cT0, cT1⟩ := c2_of hT
          have zT := lt_of hT
          obtain ⟨cU0, cU1, cU2, cU3⟩ := c4_of hU
          have zU := lt_of hU
          have HA := Lib.hid hA
          have HX := Lib.hid hX
          have HR := Lib.hid hR
          have HT := Lib.hid hT
          have HU := Lib.hid hU
          clear hA hX hR hT hU
          go_wp2_with fail
          refine (G0.out _).mono ?_
          rintro e w12 ⟨rfl, hb12⟩
          have hA : w12.heap[w.heap.size]? = some (.cells #[.int .u64 v, .int .u64 m, .int .u64 lo, .int .u64 hi, .int .i64 sl, .int .i64 sh] 28) := hb12.heap (HA.out) (by simp)
          have hX : w12.heap[w.heap.size + 1]? = some (.cells #[.int .u64 xv, .int .u64 xm, .int .u64 xlo, .int .u64 xhi, .int .i64 xsl, .int .i64 xsh] 28) := hb12.heap (HX.out) (by simp)
          have hR : w12.heap[w.heap.size + 1 + 1]? = some (.cells #[.int .u64 0, .int .u64 0, .int .u64 0, .int .u64 0, .int .i64 0, .int .i64 0] 28) := hb12.heap (HR.out) (by simp)
          have hT : w12.heap[w8.heap.size]? = some (.cells #[.int .u64 tv, .int .u64 tm] 24) := hb12.heap (HT.out) (by simp)
          have hU : w12.heap[w10.heap.size]? = some (.cells #[.int .u64 pl, .int .u64 ph, .int .i64 ps, .int .i64 pt] 26) := hb12.heap (HU.out) (by simp)
          clear zA zX zR zT zU
          clear cA0 cA1 cA2 cA3 cA4 cA5 cX0 cX1 cX2 cX3 cX4 cX5 cR0 cR1 cR2 cR3 cR4 cR5 cT0 cT1 cU0 cU1 cU2 cU3
          clear fR0 fR1 fR2 fR3 fR4 fR5
          obtain ⟨cA0, cA1, cA2, cA3, cA4, cA5⟩ := c6_of hA
          have zA := lt_of hA
          obtain ⟨cX0, cX1, cX2, cX3, cX4, cX5⟩ := c6_of hX
          have zX := lt_of hX
          obtain ⟨cR0, cR1, cR2, cR3, cR4, cR5⟩ := c6_of hR
          obtain ⟨fR0, fR1, fR2, fR3, fR4, fR5⟩ := f6_of hR
          have zR := lt_of hR
          obtain ⟨cT0, cT1⟩ := c2_of hT
          have zT := lt_of hT
          obtain ⟨cU0, cU1, cU2, cU3⟩ := c4_of hU
          have zU := lt_of hU
          have HB : Hid (But [] w w12) := Lib.hid ((HB.out).trans hb12 (by simp))
          have HA := Lib.hid hA
          have HX := Lib.hid hX
          have HR := Lib.hid hR
          have HT := Lib.hid hT
          have HU := Lib.hid hU
          clear hA hX hR hT hU hb12
          go_wp2_with fail
          refine (G1.out _).mono ?_
          rintro e w13 ⟨rfl, hb13⟩
          have hA : w13.heap[w.heap.size]? = some (.cells #[.int .u64 v, .int .u64 m, .int .u64 lo, .int .u64 hi, .int .i64 sl, .int .i64 sh] 28) := hb13.heap (HA.out) (by simp)
          have hX : w13.heap[w.heap.size + 1]? = some (.cells #[.int .u64 xv, .int .u64 xm, .int .u64 xlo, .int .u64 xhi, .int .i64 xsl, .int .i64 xsh] 28) := hb13.heap (HX.out) (by simp)
          have hR : w13.heap[w.heap.size + 1 + 1]? = some (.cells #[.int .u64 0, .int .u64 0, .int .u64 0, .int .u64 0, .int .i64 0, .int .i64 0] 28) := hb13.heap (HR.out) (by simp)
          have hT : w13.heap[w8.heap.size]? = some (.cells #[.int .u64 tv, .int .u64 tm] 24) := hb13.heap (HT.out) (by simp)
          have hU : w13.heap[w10.heap.size]? = some (.cells #[.int .u64 pl, .int .u64 ph, .int .i64 ps, .int .i64 pt] 26) := hb13.heap (HU.out) (by simp)
          clear zA zX zR zT zU
          clear cA0 cA1 cA2 cA3 cA4 cA5 cX0 cX1 cX2 cX3 cX4 cX5 cR0 cR1 cR2 cR3 cR4 cR5 cT0 cT1 cU0 cU1 cU2 cU3
          clear fR0 fR1 fR2 fR3 fR4 fR5
          obtain ⟨cA0, cA1, cA2, cA3, cA4, cA5⟩ := c6_of hA
          have zA := lt_of hA
          obtain ⟨cX0, cX1, cX2, cX3, cX4, cX5⟩ := c6_of hX
          have zX := lt_of hX
          obtain ⟨cR0, cR1, cR2, cR3, cR4, cR5⟩ := c6_of hR
          obtain ⟨fR0, fR1, fR2, fR3, fR4, fR5⟩ := f6_of hR
          have zR := lt_of hR
          obtain ⟨cT0, cT1⟩ := c2_of hT
          have zT := lt_of hT
          obtain ⟨cU0, cU1, cU2, cU3⟩ := c4_of hU
          have zU := lt_of hU
          have HB : Hid (But [] w w13) := Lib.hid ((HB.out).trans hb13 (by simp))
          have HA := Lib.hid hA
          have HX := Lib.hid hX
          have HR := Lib.hid hR
          have HT := Lib.hid hT
          have HU := Lib.hid hU
          clear hA hX hR hT hU hb13
          go_wp2_with fail
          exact bodyPost_ret (v := .tuple #[.agg #[.int .u64 0, .int .u64 0, .int .u64 0, .int .u64 0, .int .i64 0, .int .i64 0], .bool false]) (by simp [results, Try.results51, go_sem, cR0, cR1, cR2, cR3, cR4, cR5]) rfl (RulePost.mk (zeroSc) (by rw [HE.out]; rfl) (fun d hd => by rw [HE.out] at hd; cases hd) (by
    repeat (first | with_reducible exact HB.out | with_reducible refine But.alloc ?_ _ | (with_reducible refine But.setCell ?_ (.inr ?_) _; rotate_left; (simp only []; omega)))))
        | true =>
          rw [e3] at G3
          have hL : (⟨meetT ⟨v, m⟩ ⟨xv, xm⟩, spMeet ⟨lo, hi, sl, sh⟩ ⟨xlo, xhi, xsl, xsh⟩⟩ : Sc) = ⟨⟨tv, tm⟩, ⟨pl, ph, ps, pt⟩⟩ := by rw [← HT.out, show spMeet ⟨lo, hi, sl, sh⟩ ⟨xlo, xhi, xsl, xsh⟩ = ⟨pl, ph, ps, pt⟩ from by rw [HP.out]; unfold spMeetV; rw [if_pos e3]]
          have hrg := HR0.out e2
          simp only at hrg
          rw [hL] at hrg
          obtain ⟨⟨⟨gv, gm⟩, ⟨gl, gh, gi, gj⟩⟩, hg⟩ : ∃ g : Sc, (ofT ⟨⟨tv, tm⟩, ⟨pl, ph, ps, pt⟩⟩).getD zeroSc = g := ⟨_, rfl⟩
          obtain ⟨gb, hgb⟩ : ∃ b, (ofT ⟨⟨tv, tm⟩, ⟨pl, ph, ps, pt⟩⟩).isSome = b := ⟨_, rfl⟩
          have G4 := Lib.hid (fun w => scOf_v tv tm pl ph gv gm gl gh ps pt gi gj gb hrg hg hgb w)
          have HE : Hid (scMeetT ⟨⟨v, m⟩, ⟨lo, hi, sl, sh⟩⟩ ⟨⟨xv, xm⟩, ⟨xlo, xhi, xsl, xsh⟩⟩ = ofT ⟨⟨tv, tm⟩, ⟨pl, ph, ps, pt⟩⟩) := Lib.hid (by unfold scMeetT; rw [if_pos (by simp [e0, e1, e2, e3]), hL])
          have HG := Lib.hid hg
          have HGB := Lib.hid hgb
          clear hg hgb hrg hL e0 e1 e2 e3 HR0
          go_enter Try.func51, Try.ntmps51
          go_wp2_with fail
          refine (G2.out _).mono ?_
          rintro e w8 ⟨rfl, hb8⟩
          have hA : w8.heap[w.heap.size]? = some (.cells #[.int .u64 v, .int .u64 m, .int .u64 lo, .int .u64 hi, .int .i64 sl, .int .i64 sh] 28) := hb8.heap (by repeat (first | (with_reducible refine al_eq _ _ _ ?_; (simp only [size_alloc]; done)) | with_reducible refine al_keep ?_ _ | with_reducible refine dr_keep ?_)) (by simp)
          have hX : w8.heap[w.heap.size + 1]? = some (.cells #[.int .u64 xv, .int .u64 xm, .int .u64 xlo, .int .u64 xhi, .int .i64 xsl, .int .i64 xsh] 28) := hb8.heap (by repeat (first | (with_reducible refine al_eq _ _ _ ?_; (simp only [size_alloc]; done)) | with_reducible refine al_keep ?_ _ | with_reducible refine dr_keep ?_)) (by simp)
          have hR : w8.heap[w.heap.size + 1 + 1]? = some (.cells #[.int .u64 0, .int .u64 0, .int .u64 0, .int .u64 0, .int .i64 0, .int .i64 0] 28) := hb8.heap (by repeat (first | (with_reducible refine al_eq _ _ _ ?_; (simp only [size_alloc]; done)) | with_reducible refine al_keep ?_ _ | with_reducible refine dr_keep ?_)) (by simp)
          obtain ⟨cA0, cA1, cA2, cA3, cA4, cA5⟩ := c6_of hA
          have zA := lt_of hA
          obtain ⟨cX0, cX1, cX2, cX3, cX4, cX5⟩ := c6_of hX
          have zX := lt_of hX
          obtain ⟨cR0, cR1, cR2, cR3, cR4, cR5⟩ := c6_of hR
          obtain ⟨fR0, fR1, fR2, fR3, fR4, fR5⟩ := f6_of hR
          have zR := lt_of hR
          have HB : Hid (But [] w w8) := Lib.hid ((by repeat (first | with_reducible exact But.refl _ _ | with_reducible refine But.drew ?_ | with_reducible refine But.alloc ?_ _) : But [] w _).trans hb8 (by simp))
          have HA := Lib.hid hA
          have HX := Lib.hid hX
          have HR := Lib.hid hR
          clear hA hX hR hb8
          go_upto_region 2 with (fail)
          generalize hw : World.alloc w8 _ = w9
          have hA : w9.heap[w.heap.size]? = some (.cells #[.int .u64 v, .int .u64 m, .int .u64 lo, .int .u64 hi, .int .i64 sl, .int .i64 sh] 28) := by rw [← hw]; exact al_keep HA.out _
          have hX : w9.heap[w.heap.size + 1]? = some (.cells #[.int .u64 xv, .int .u64 xm, .int .u64 xlo, .int .u64 xhi, .int .i64 xsl, .int .i64 xsh] 28) := by rw [← hw]; exact al_keep HX.out _
          have hR : w9.heap[w.heap.size + 1 + 1]? = some (.cells #[.int .u64 0, .int .u64 0, .int .u64 0, .int .u64 0, .int .i64 0, .int .i64 0] 28) := by rw [← hw]; exact al_keep HR.out _
          have hT : w9.heap[w8.heap.size]? = some (.cells #[.int .u64 tv, .int .u64 tm] 24) := by rw [← hw]; exact al_at _ _
          have HB : Hid (But [] w w9) := Lib.hid (by rw [← hw]; exact HB.out.alloc _)
          clear hw
          clear zA zX zR cA0 cA1 cA2 cA3 cA4 cA5 cX0 cX1 cX2 cX3 cX4 cX5 cR0 cR1 cR2 cR3 cR4 cR5 fR0 fR1 fR2 fR3 fR4 fR5
          obtain ⟨cA0, cA1, cA2, cA3, cA4, cA5⟩ := c6_of hA
          have zA := lt_of hA
          obtain ⟨cX0, cX1, cX2, cX3, cX4, cX5⟩ := c6_of hX
          have zX := lt_of hX
          obtain ⟨cR0, cR1, cR2, cR3, cR4, cR5⟩ := c6_of hR
          obtain ⟨fR0, fR1, fR2, fR3, fR4, fR5⟩ := f6_of hR
          have zR := lt_of hR
          obtain ⟨cT0, cT1⟩ := c2_of hT
          have zT := lt_of hT
          have HA := Lib.hid hA
          have HX := Lib.hid hX
          have HR := Lib.hid hR
          have HT := Lib.hid hT
          clear hA hX hR hT
          go_wp2_with fail
          refine (G3.out _).mono ?_
          rintro e w10 ⟨rfl, hb10⟩
          have hA : w10.heap[w.heap.size]? = some (.cells #[.int .u64 v, .int .u64 m, .int .u64 lo, .int .u64 hi, .int .i64 sl, .int .i64 sh] 28) := hb10.heap (HA.out) (by simp)
          have hX : w10.heap[w.heap.size + 1]? = some (.cells #[.int .u64 xv, .int .u64 xm, .int .u64 xlo, .int .u64 xhi, .int .i64 xsl, .int .i64 xsh] 28) := hb10.heap (HX.out) (by simp)
          have hR : w10.heap[w.heap.size + 1 + 1]? = some (.cells #[.int .u64 0, .int .u64 0, .int .u64 0, .int .u64 0, .int .i64 0, .int .i64 0] 28) := hb10.heap (HR.out) (by simp)
          have hT : w10.heap[w8.heap.size]? = some (.cells #[.int .u64 tv, .int .u64 tm] 24) := hb10.heap (HT.out) (by simp)
          clear zA zX zR zT
          clear cA0 cA1 cA2 cA3 cA4 cA5 cX0 cX1 cX2 cX3 cX4 cX5 cR0 cR1 cR2 cR3 cR4 cR5 cT0 cT1
          clear fR0 fR1 fR2 fR3 fR4 fR5
          obtain ⟨cA0, cA1, cA2, cA3, cA4, cA5⟩ := c6_of hA
          have zA := lt_of hA
          obtain ⟨cX0, cX1, cX2, cX3, cX4, cX5⟩ := c6_of hX
          have zX := lt_of hX
          obtain ⟨cR0, cR1, cR2, cR3, cR4, cR5⟩ := c6_of hR
          obtain ⟨fR0, fR1, fR2, fR3, fR4, fR5⟩ := f6_of hR
          have zR := lt_of hR
          obtain ⟨cT0, cT1⟩ := c2_of hT
          have zT := lt_of hT
          have HB : Hid (But [] w w10) := Lib.hid ((HB.out).trans hb10 (by simp))
          have HA := Lib.hid hA
          have HX := Lib.hid hX
          have HR := Lib.hid hR
          have HT := Lib.hid hT
          clear hA hX hR hT hb10
          go_upto_region 3 with (fail)
          generalize hw : World.alloc w10 _ = w11
          have hA : w11.heap[w.heap.size]? = some (.cells #[.int .u64 v, .int .u64 m, .int .u64 lo, .int .u64 hi, .int .i64 sl, .int .i64 sh] 28) := by rw [← hw]; exact al_keep HA.out _
          have hX : w11.heap[w.heap.size + 1]? = some (.cells #[.int .u64 xv, .int .u64 xm, .int .u64 xlo, .int .u64 xhi, .int .i64 xsl, .int .i64 xsh] 28) := by rw [← hw]; exact al_keep HX.out _
          have hR : w11.heap[w.heap.size + 1 + 1]? = some (.cells #[.int .u64 0, .int .u64 0, .int .u64 0, .int .u64 0, .int .i64 0, .int .i64 0] 28) := by rw [← hw]; exact al_keep HR.out _
          have hT : w11.heap[w8.heap.size]? = some (.cells #[.int .u64 tv, .int .u64 tm] 24) := by rw [← hw]; exact al_keep HT.out _
          have hU : w11.heap[w10.heap.size]? = some (.cells #[.int .u64 pl, .int .u64 ph, .int .i64 ps, .int .i64 pt] 26) := by rw [← hw]; exact al_at _ _
          have HB : Hid (But [] w w11) := Lib.hid (by rw [← hw]; exact HB.out.alloc _)
          clear hw
          clear zA zX zR zT cA0 cA1 cA2 cA3 cA4 cA5 cX0 cX1 cX2 cX3 cX4 cX5 cR0 cR1 cR2 cR3 cR4 cR5 cT0 cT1 fR0 fR1 fR2 fR3 fR4 fR5
          obtain ⟨cA0, cA1, cA2, cA3, cA4, cA5⟩ := c6_of hA
          have zA := lt_of hA
          obtain ⟨cX0, cX1, cX2, cX3, cX4, cX5⟩ := c6_of hX
          have zX := lt_of hX
          obtain ⟨cR0, cR1, cR2, cR3, cR4, cR5⟩ := c6_of hR
          obtain ⟨fR0, fR1, fR2, fR3, fR4, fR5⟩ := f6_of hR
          have zR := lt_of hR
          obtain ⟨cT0, cT1⟩ := c2_of hT
          have zT := lt_of hT
          obtain ⟨cU0, cU1, cU2, cU3⟩ := c4_of hU
          have zU := lt_of hU
          have HA := Lib.hid hA
          have HX := Lib.hid hX
          have HR := Lib.hid hR
          have HT := Lib.hid hT
          have HU := Lib.hid hU
          clear hA hX hR hT hU
          go_wp2_with fail
          refine (G0.out _).mono ?_
          rintro e w12 ⟨rfl, hb12⟩
          have hA : w12.heap[w.heap.size]? = some (.cells #[.int .u64 v, .int .u64 m, .int .u64 lo, .int .u64 hi, .int .i64 sl, .int .i64 sh] 28) := hb12.heap (HA.out) (by simp)
          have hX : w12.heap[w.heap.size + 1]? = some (.cells #[.int .u64 xv, .int .u64 xm, .int .u64 xlo, .int .u64 xhi, .int .i64 xsl, .int .i64 xsh] 28) := hb12.heap (HX.out) (by simp)
          have hR : w12.heap[w.heap.size + 1 + 1]? = some (.cells #[.int .u64 0, .int .u64 0, .int .u64 0, .int .u64 0, .int .i64 0, .int .i64 0] 28) := hb12.heap (HR.out) (by simp)
          have hT : w12.heap[w8.heap.size]? = some (.cells #[.int .u64 tv, .int .u64 tm] 24) := hb12.heap (HT.out) (by simp)
          have hU : w12.heap[w10.heap.size]? = some (.cells #[.int .u64 pl, .int .u64 ph, .int .i64 ps, .int .i64 pt] 26) := hb12.heap (HU.out) (by simp)
          clear zA zX zR zT zU
          clear cA0 cA1 cA2 cA3 cA4 cA5 cX0 cX1 cX2 cX3 cX4 cX5 cR0 cR1 cR2 cR3 cR4 cR5 cT0 cT1 cU0 cU1 cU2 cU3
          clear fR0 fR1 fR2 fR3 fR4 fR5
          obtain ⟨cA0, cA1, cA2, cA3, cA4, cA5⟩ := c6_of hA
          have zA := lt_of hA
          obtain ⟨cX0, cX1, cX2, cX3, cX4, cX5⟩ := c6_of hX
          have zX := lt_of hX
          obtain ⟨cR0, cR1, cR2, cR3, cR4, cR5⟩ := c6_of hR
          obtain ⟨fR0, fR1, fR2, fR3, fR4, fR5⟩ := f6_of hR
          have zR := lt_of hR
          obtain ⟨cT0, cT1⟩ := c2_of hT
          have zT := lt_of hT
          obtain ⟨cU0, cU1, cU2, cU3⟩ := c4_of hU
          have zU := lt_of hU
          have HB : Hid (But [] w w12) := Lib.hid ((HB.out).trans hb12 (by simp))
          have HA := Lib.hid hA
          have HX := Lib.hid hX
          have HR := Lib.hid hR
          have HT := Lib.hid hT
          have HU := Lib.hid hU
          clear hA hX hR hT hU hb12
          go_wp2_with fail
          refine (G1.out _).mono ?_
          rintro e w13 ⟨rfl, hb13⟩
          have hA : w13.heap[w.heap.size]? = some (.cells #[.int .u64 v, .int .u64 m, .int .u64 lo, .int .u64 hi, .int .i64 sl, .int .i64 sh] 28) := hb13.heap (HA.out) (by simp)
          have hX : w13.heap[w.heap.size + 1]? = some (.cells #[.int .u64 xv, .int .u64 xm, .int .u64 xlo, .int .u64 xhi, .int .i64 xsl, .int .i64 xsh] 28) := hb13.heap (HX.out) (by simp)
          have hR : w13.heap[w.heap.size + 1 + 1]? = some (.cells #[.int .u64 0, .int .u64 0, .int .u64 0, .int .u64 0, .int .i64 0, .int .i64 0] 28) := hb13.heap (HR.out) (by simp)
          have hT : w13.heap[w8.heap.size]? = some (.cells #[.int .u64 tv, .int .u64 tm] 24) := hb13.heap (HT.out) (by simp)
          have hU : w13.heap[w10.heap.size]? = some (.cells #[.int .u64 pl, .int .u64 ph, .int .i64 ps, .int .i64 pt] 26) := hb13.heap (HU.out) (by simp)
          clear zA zX zR zT zU
          clear cA0 cA1 cA2 cA3 cA4 cA5 cX0 cX1 cX2 cX3 cX4 cX5 cR0 cR1 cR2 cR3 cR4 cR5 cT0 cT1 cU0 cU1 cU2 cU3
          clear fR0 fR1 fR2 fR3 fR4 fR5
          obtain ⟨cA0, cA1, cA2, cA3, cA4, cA5⟩ := c6_of hA
          have zA := lt_of hA
          obtain ⟨cX0, cX1, cX2, cX3, cX4, cX5⟩ := c6_of hX
          have zX := lt_of hX
          obtain ⟨cR0, cR1, cR2, cR3, cR4, cR5⟩ := c6_of hR
          obtain ⟨fR0, fR1, fR2, fR3, fR4, fR5⟩ := f6_of hR
          have zR := lt_of hR
          obtain ⟨cT0, cT1⟩ := c2_of hT
          have zT := lt_of hT
          obtain ⟨cU0, cU1, cU2, cU3⟩ := c4_of hU
          have zU := lt_of hU
          have HB : Hid (But [] w w13) := Lib.hid ((HB.out).trans hb13 (by simp))
          have HA := Lib.hid hA
          have HX := Lib.hid hX
          have HR := Lib.hid hR
          have HT := Lib.hid hT
          have HU := Lib.hid hU
          clear hA hX hR hT hU hb13
          go_wp2_with fail
          refine (G4.out _).mono ?_
          rintro e w14 ⟨rfl, hb14⟩
          have hR : w14.heap[w.heap.size + 1 + 1]? = some (.cells #[.int .u64 0, .int .u64 0, .int .u64 0, .int .u64 0, .int .i64 0, .int .i64 0] 28) := hb14.heap (HR.out) (by simp)
          clear zA zX zR zT zU
          clear cA0 cA1 cA2 cA3 cA4 cA5 cX0 cX1 cX2 cX3 cX4 cX5 cR0 cR1 cR2 cR3 cR4 cR5 cT0 cT1 cU0 cU1 cU2 cU3
          clear fR0 fR1 fR2 fR3 fR4 fR5
          obtain ⟨cR0, cR1, cR2, cR3, cR4, cR5⟩ := c6_of hR
          obtain ⟨fR0, fR1, fR2, fR3, fR4, fR5⟩ := f6_of hR
          have zR := lt_of hR
          have HB : Hid (But [] w w14) := Lib.hid ((HB.out).trans hb14 (by simp))
          have HR := Lib.hid hR
          clear hR hb14
          go_wp2_with fail
          exact bodyPost_ret (v := .tuple #[.agg #[.int .u64 gv, .int .u64 gm, .int .u64 gl, .int .u64 gh, .int .i64 gi, .int .i64 gj], .bool gb]) (by simp [results, Try.results51, go_sem, cR0, cR1, cR2, cR3, cR4, cR5]) rfl (RulePost.mk (⟨⟨gv, gm⟩, ⟨gl, gh, gi, gj⟩⟩) (by rw [HE.out, HGB.out]; rfl) (fun d hd => by rw [HE.out] at hd; rw [← HG.out, hd]; rfl) (by
    repeat (first | with_reducible exact HB.out | with_reducible refine But.alloc ?_ _ | (with_reducible refine But.setCell ?_ (.inr ?_) _; rotate_left; (simp only []; omega)))))
end Go.Proofs.Ytmbmmcippglfoaa.M
