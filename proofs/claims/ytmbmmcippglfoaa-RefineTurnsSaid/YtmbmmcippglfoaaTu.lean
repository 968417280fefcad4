/-
  RefineTurns: the walk.
-/
import Derived.Test.YtmbmmcippglfoaaTuR
import Derived.Test.YtmbmmcippglfoaaTuP
import Derived.Test.YtmbmmcippglfoaaAwT
import Derived.Test.YtmbmmcippglfoaaScB
import Derived.Test.YtmbmmcippglfoaaScIn
namespace Go.Proofs.Ytmbmmcippglfoaa.M
open Go.RowKit Go.Shelf
set_option linter.unusedVariables false
set_option linter.unusedSectionVars false
set_option linter.unusedSimpArgs false

theorem brC_swap (r : Option (Sc × Sc)) : brC (r.map fun x => (x.2, x.1)) = ((brC r).2, (brC r).1) := by cases r <;> rfl
set_option maxRecDepth 100000 in
set_option maxHeartbeats 8000000 in
theorem turns_w (w : World) (wide : Bool) (a b less : Sc) (tk : Bool) (ha : Rg a) (hb : Rg b) (hs : Rg less) : Calls Try.prog 5 #[.bool wide, a.val, b.val, less.val, .bool tk] w fun e w' => e = .returned (.bool true) ∧ But [] w w' := by
  obtain ⟨⟨v, m⟩, ⟨lo, hi, sl, sh⟩⟩ := a
  obtain ⟨⟨xv, xm⟩, ⟨xlo, xhi, xsl, xsh⟩⟩ := b
  obtain ⟨⟨yv, ym⟩, ⟨ylo, yhi, ysl, ysh⟩⟩ := less
  have HRA := Lib.hid ha
  have HRB := Lib.hid hb
  have HRS := Lib.hid hs
  clear ha hb hs
  go_enter Try.func5, Try.ntmps5
  simp only [Sc.val]
  go_wp2_with fail
  refine (awake_c _).mono ?_
  rintro e w1 ⟨rfl, hb1⟩
  have hA : w1.heap[w.heap.size]? = some (.cells #[.int .u64 v, .int .u64 m, .int .u64 lo, .int .u64 hi, .int .i64 sl, .int .i64 sh] 28) := hb1.heap (by repeat (first | (with_reducible refine al_eq _ _ _ ?_; (simp only [size_alloc]; done)) | with_reducible refine al_keep ?_ _ | with_reducible refine dr_keep ?_)) (by simp)
  have hX : w1.heap[w.heap.size + 1]? = some (.cells #[.int .u64 xv, .int .u64 xm, .int .u64 xlo, .int .u64 xhi, .int .i64 xsl, .int .i64 xsh] 28) := hb1.heap (by repeat (first | (with_reducible refine al_eq _ _ _ ?_; (simp only [size_alloc]; done)) | with_reducible refine al_keep ?_ _ | with_reducible refine dr_keep ?_)) (by simp)
  have hY : w1.heap[w.heap.size + 1 + 1]? = some (.cells #[.int .u64 yv, .int .u64 ym, .int .u64 ylo, .int .u64 yhi, .int .i64 ysl, .int .i64 ysh] 28) := hb1.heap (by repeat (first | (with_reducible refine al_eq _ _ _ ?_; (simp only [size_alloc]; done)) | with_reducible refine al_keep ?_ _ | with_reducible refine dr_keep ?_)) (by simp)
  have HB1 : Hid (But [] w w1) := Lib.hid ((by repeat (first | with_reducible exact But.refl _ _ | with_reducible refine But.drew ?_ | with_reducible refine But.alloc ?_ _) : But [] w _).trans hb1 (by simp))
  have HA := Lib.hid hA
  have HX := Lib.hid hX
  have HY := Lib.hid hY
  clear hA hX hY hb1
  go_wp2_with fail
  generalize hw : World.alloc (World.alloc (World.alloc w1 _) _) _ = w2
  have H1 : Hid (w2.heap[w1.heap.size]? = some (.cells #[.int .u8 (oneA 0 : Int), .int .u8 (oneA 1 : Int), .int .u8 (oneA 2 : Int), .int .u8 (oneA 3 : Int), .int .u8 (oneA 4 : Int), .int .u8 (oneA 5 : Int)] 5)) := Lib.hid (by rw [← hw]; exact al_keep (al_keep (al_at _ _) _) _)
  have H2 : Hid (w2.heap[w1.heap.size + 1]? = some (.cells #[.int .u8 (othA 0 : Int), .int .u8 (othA 1 : Int), .int .u8 (othA 2 : Int), .int .u8 (othA 3 : Int), .int .u8 (othA 4 : Int), .int .u8 (othA 5 : Int)] 5)) := Lib.hid (by rw [← hw]; exact al_keep (al_eq _ _ _ (by simp only [size_alloc])) _)
  have H3 : Hid (w2.heap[w1.heap.size + 1 + 1]? = some (.cells #[.int .u8 (abtA 0 : Int), .int .u8 (abtA 1 : Int), .int .u8 (abtA 2 : Int), .int .u8 (abtA 3 : Int), .int .u8 (abtA 4 : Int), .int .u8 (abtA 5 : Int)] 5)) := Lib.hid (by rw [← hw]; exact al_eq _ _ _ (by simp only [size_alloc]))
  have hb2 : But [] w1 w2 := by rw [← hw]; exact (((But.refl [] w1).alloc _).alloc _).alloc _
  have HB2 := Lib.hid (HB1.out.trans hb2 (by simp))
  have HA := Lib.hid (hb2.heap HA.out (by simp))
  have HX := Lib.hid (hb2.heap HX.out (by simp))
  have HY := Lib.hid (hb2.heap HY.out (by simp))
  clear hw hb2 HB1
  obtain ⟨L1, hL1⟩ : ∃ n, n = w1.heap.size := ⟨_, rfl⟩
  rw [← hL1] at H1 H2 H3 ⊢
  clear hL1
  obtain ⟨PA, hPA⟩ : ∃ n, n = w.heap.size := ⟨_, rfl⟩
  rw [← hPA] at HA HX HY ⊢
  clear hPA
  go_loopw [14] (fun i wr => ∃ j : Nat, j ≤ 6 ∧ i = .int .i64 (j : Int) ∧ But [] w2 wr) (fun i wr => (6 - intOf i).toNat)
  case atStart => exact ⟨0, by omega, rfl, But.refl _ _⟩
  case round =>
    obtain ⟨j, hj, rfl, hbr⟩ := hrel
    have hA := hbr.heap HA.out (by simp)
    have hX := hbr.heap HX.out (by simp)
    have hY := hbr.heap HY.out (by simp)
    have h1 := hbr.heap H1.out (by simp)
    have h2 := hbr.heap H2.out (by simp)
    have h3 := hbr.heap H3.out (by simp)
    clear HA HX HY H1 H2 H3
    have HA := Lib.hid hA
    have HX := Lib.hid hX
    have HY := Lib.hid hY
    have H1 := Lib.hid h1
    have H2 := Lib.hid h2
    have H3 := Lib.hid h3
    have HBR := Lib.hid hbr
    clear hA hX hY h1 h2 h3 hbr
    by_cases hj6 : j = 6
    · subst hj6
      go_wp2_with fail
      go_ret
      exact ⟨rfl, HB2.out.trans HBR.out (by simp)⟩
    have hjl : j < 6 := by omega
    have HO := six_ops hjl
    have HOP := Lib.hid (six_cells H1.out hjl)
    have HOQ := Lib.hid (six_cells H2.out hjl)
    have HOR := Lib.hid (six_cells H3.out hjl)
    obtain ⟨p, hp⟩ : ∃ p, p = oneA j := ⟨_, rfl⟩
    obtain ⟨q, hq⟩ : ∃ p, p = othA j := ⟨_, rfl⟩
    obtain ⟨r, hr⟩ : ∃ p, p = abtA j := ⟨_, rfl⟩
    rw [← hp] at HOP HO
    rw [← hq] at HOQ HO
    rw [← hr] at HOR HO
    clear hp hq hr
    obtain ⟨o1, o2, o3, o4, o5, o6⟩ := HO
    have HI0 : Hid ((0 : Int) ≤ (j : Int)) := Lib.hid (by omega)
    have HI1 : Hid ((j : Int) < 6) := Lib.hid (by omega)
    have hlt : (j : Int) < 6 := HI1.out
    obtain ⟨T, hT⟩ : ∃ T, T = branchT p wide ⟨⟨v, m⟩, ⟨lo, hi, sl, sh⟩⟩ ⟨⟨xv, xm⟩, ⟨xlo, xhi, xsl, xsh⟩⟩ tk := ⟨_, rfl⟩
    obtain ⟨⟨⟨cv, cm⟩, ⟨cl, ch, ci, cj⟩⟩, hc⟩ : ∃ c, (brC T).1 = c := ⟨_, rfl⟩
    obtain ⟨⟨⟨dv, dm⟩, ⟨dl, dh, di, dj⟩⟩, hd⟩ : ∃ c, (brC T).2 = c := ⟨_, rfl⟩
    obtain ⟨cb, hcb⟩ : ∃ c, T.isSome = c := ⟨_, rfl⟩
    have HBP : Hid (∀ w, Calls Try.prog 12 #[.int .u8 (p : Int), .bool wide, .agg #[.int .u64 v, .int .u64 m, .int .u64 lo, .int .u64 hi, .int .i64 sl, .int .i64 sh], .agg #[.int .u64 xv, .int .u64 xm, .int .u64 xlo, .int .u64 xhi, .int .i64 xsl, .int .i64 xsh], .bool tk] w fun e w' => e = .returned (.tuple #[.agg #[.int .u64 cv, .int .u64 cm, .int .u64 cl, .int .u64 ch, .int .i64 ci, .int .i64 cj], .agg #[.int .u64 dv, .int .u64 dm, .int .u64 dl, .int .u64 dh, .int .i64 di, .int .i64 dj], .bool cb]) ∧ But [] w w') := Lib.hid (fun w => by
      have h := branch_c p wide tk ⟨⟨v, m⟩, ⟨lo, hi, sl, sh⟩⟩ ⟨⟨xv, xm⟩, ⟨xlo, xhi, xsl, xsh⟩⟩ w o2 HRA.out HRB.out
      unfold BrPost at h
      rw [← hT, hc, hd, hcb] at h
      exact h)
    have HBR3 : Hid (∀ w, Calls Try.prog 12 #[.int .u8 (r : Int), .bool wide, .agg #[.int .u64 xv, .int .u64 xm, .int .u64 xlo, .int .u64 xhi, .int .i64 xsl, .int .i64 xsh], .agg #[.int .u64 v, .int .u64 m, .int .u64 lo, .int .u64 hi, .int .i64 sl, .int .i64 sh], .bool tk] w fun e w' => e = .returned (.tuple #[.agg #[.int .u64 dv, .int .u64 dm, .int .u64 dl, .int .u64 dh, .int .i64 di, .int .i64 dj], .agg #[.int .u64 cv, .int .u64 cm, .int .u64 cl, .int .u64 ch, .int .i64 ci, .int .i64 cj], .bool cb]) ∧ But [] w w') := Lib.hid (fun w => by
      have h := branch_c r wide tk ⟨⟨xv, xm⟩, ⟨xlo, xhi, xsl, xsh⟩⟩ ⟨⟨v, m⟩, ⟨lo, hi, sl, sh⟩⟩ w o4 HRB.out HRA.out
      unfold BrPost at h
      rw [o5, turn_abt o1, ← hT, brC_swap, Option.isSome_map, hc, hd, hcb, ← o5] at h
      exact h)
    have HTN : Hid (cb = false → leqT ⟨⟨yv, ym⟩, ⟨ylo, yhi, ysl, ysh⟩⟩ ⟨⟨v, m⟩, ⟨lo, hi, sl, sh⟩⟩ = true → rightB ⟨⟨xv, xm⟩, ⟨xlo, xhi, xsl, xsh⟩⟩ = true → branchT p wide ⟨⟨yv, ym⟩, ⟨ylo, yhi, ysl, ysh⟩⟩ ⟨⟨xv, xm⟩, ⟨xlo, xhi, xsl, xsh⟩⟩ tk = none) := Lib.hid (fun h1 h2 h3 => turn_less HRA.out HRB.out HRS.out h2 h3 (by rw [← hT]; cases T with | none => rfl | some x => rw [← hcb] at h1; cases h1))
    have HO2 := Lib.hid o2
    have HQ4 : Hid (q = 0 ∨ (q ≠ 0 ∧ ∀ w, Calls Try.prog 12 #[.int .u8 (q : Int), .bool wide, .agg #[.int .u64 v, .int .u64 m, .int .u64 lo, .int .u64 hi, .int .i64 sl, .int .i64 sh], .agg #[.int .u64 xv, .int .u64 xm, .int .u64 xlo, .int .u64 xhi, .int .i64 xsl, .int .i64 xsh], .bool (!tk)] w fun e w' => e = .returned (.tuple #[.agg #[.int .u64 cv, .int .u64 cm, .int .u64 cl, .int .u64 ch, .int .i64 ci, .int .i64 cj], .agg #[.int .u64 dv, .int .u64 dm, .int .u64 dl, .int .u64 dh, .int .i64 di, .int .i64 dj], .bool cb]) ∧ But [] w w')) := Lib.hid (by
      rcases o6 with h | ⟨h1, h2, h3⟩
      · exact .inl h
      · refine .inr ⟨h3, fun w => ?_⟩
        have h := branch_c q wide (!tk) ⟨⟨v, m⟩, ⟨lo, hi, sl, sh⟩⟩ ⟨⟨xv, xm⟩, ⟨xlo, xhi, xsl, xsh⟩⟩ w o3 HRA.out HRB.out
        unfold BrPost at h
        rw [h1, turn_opp o1 h2, ← hT, hc, hd, hcb, ← h1] at h
        exact h)
    clear o1 o2 o3 o4 o5 o6 hT hc hd hcb hj6 hj
    go_wp2_with fail
    refine tu9 _ HI0 HI1 HA HX HOP HBP ?_
    intro _ _ _ _ _ _ _ _ _ _ _ _ _ w6 k6 l6 hb hk hl hkl h1 h2
    have HA := Lib.hid (hb.heap HA.out (by simp))
    have HX := Lib.hid (hb.heap HX.out (by simp))
    have HY := Lib.hid (hb.heap HY.out (by simp))
    have HOQ := Lib.hid (cell_but hb HOQ.out (by simp))
    have HOR := Lib.hid (cell_but hb HOR.out (by simp))
    have HOP := Lib.hid (cell_but hb HOP.out (by simp))
    have HB6 := Lib.hid (HBR.out.trans hb (by simp))
    have HC := Lib.hid h1
    have HD := Lib.hid h2
    clear hb hk hl hkl h1 h2 HBR H1 H2 H3
    have hoq := HOQ.out
    go_upto_if 55 with (fail)
    clear hoq
    go_cut [] from 56 to 82 (fun wx => But [] w6 wx)
    case first =>
      rcases HQ4.out with hq0 | ⟨hq0, hbq⟩
      · have e1 : ((q : Int) != 0) = false := by simp; omega
        clear hq0
        go_wp2_with fail
        all_goals go_meet
        all_goals exact But.refl _ _
      · have e1 : ((q : Int) != 0) = true := by simp; omega
        have HBQ := Lib.hid hbq
        clear hq0 hbq HQ4 HTN
        go_wp2_with fail
        refine tu11 _ HI0 HI1 HA HX HOQ HBQ ?_
        intro _ _ _ _ _ _ _ _ _ _ _ _ _ _ w7 k7 l7 hb hk hl hkl h1 h2
        have HC7 := Lib.hid (hb.heap HC.out (by simp))
        have HD7 := Lib.hid (hb.heap HD.out (by simp))
        have HC2 := Lib.hid h1
        have HD2 := Lib.hid h2
        have HB7 := Lib.hid hb
        clear hb hk hl hkl h1 h2
        have hx := HC7.out
        obtain ⟨ca0, ca1, ca2, ca3, ca4, ca5⟩ := c6_of hx
        clear hx
        have hx := HD7.out
        obtain ⟨cb0, cb1, cb2, cb3, cb4, cb5⟩ := c6_of hx
        clear hx
        have hx := HC2.out
        obtain ⟨cc0, cc1, cc2, cc3, cc4, cc5⟩ := c6_of hx
        clear hx
        have hx := HD2.out
        obtain ⟨cd0, cd1, cd2, cd3, cd4, cd5⟩ := c6_of hx
        clear hx
        go_wp2_with fail
        all_goals go_meet
        all_goals exact HB7.out
    case rest =>
      have hb := hcut
      rename World => w8
      have HA := Lib.hid (hb.heap HA.out (by simp))
      have HX := Lib.hid (hb.heap HX.out (by simp))
      have HY := Lib.hid (hb.heap HY.out (by simp))
      have HC := Lib.hid (hb.heap HC.out (by simp))
      have HD := Lib.hid (hb.heap HD.out (by simp))
      have HOR := Lib.hid (cell_but hb HOR.out (by simp))
      have HOP := Lib.hid (cell_but hb HOP.out (by simp))
      have HB8 := Lib.hid (HB6.out.trans hb (by simp))
      clear hb hcut HOQ HQ4 HB6
      go_wp2_with fail
      refine tu14 _ HI0 HI1 HA HX HOR HBR3 ?_
      intro _ _ _ _ _ _ _ _ _ _ _ _ _ w9 k9 l9 hb hk hl hkl h1 h2
      have HA := Lib.hid (hb.heap HA.out (by simp))
      have HX := Lib.hid (hb.heap HX.out (by simp))
      have HY := Lib.hid (hb.heap HY.out (by simp))
      have HC := Lib.hid (hb.heap HC.out (by simp))
      have HD := Lib.hid (hb.heap HD.out (by simp))
      have HOP := Lib.hid (cell_but hb HOP.out (by simp))
      have HB9 := Lib.hid (HB8.out.trans hb (by simp))
      have HD2 := Lib.hid h1
      have HC2 := Lib.hid h2
      clear hb hk hl hkl h1 h2 HB8 HOR HBR3
      have hx := HC.out
      obtain ⟨ca0, ca1, ca2, ca3, ca4, ca5⟩ := c6_of hx
      clear hx
      have hx := HD.out
      obtain ⟨cb0, cb1, cb2, cb3, cb4, cb5⟩ := c6_of hx
      clear hx
      have hx := HC2.out
      obtain ⟨cc0, cc1, cc2, cc3, cc4, cc5⟩ := c6_of hx
      clear hx
      have hx := HD2.out
      obtain ⟨cd0, cd1, cd2, cd3, cd4, cd5⟩ := c6_of hx
      clear hx
      go_upto_region 17 with (fail)
      clear ca0 ca1 ca2 ca3 ca4 ca5 cb0 cb1 cb2 cb3 cb4 cb5 cc0 cc1 cc2 cc3 cc4 cc5 cd0 cd1 cd2 cd3 cd4 cd5
      clear HC HD HC2 HD2
      have HLQ := Lib.hid (fun w => scLeq0 yv ym ylo yhi v m lo hi ysl ysh sl sh w HRS.out HRA.out)
      have HRT := Lib.hid (fun w => scRight0 xv xm xlo xhi xsl xsh w HRB.out)
      obtain ⟨lq, hlq⟩ : ∃ x, x = leqT ⟨⟨yv, ym⟩, ⟨ylo, yhi, ysl, ysh⟩⟩ ⟨⟨v, m⟩, ⟨lo, hi, sl, sh⟩⟩ := ⟨_, rfl⟩
      obtain ⟨rt, hrt⟩ : ∃ x, x = rightB ⟨⟨xv, xm⟩, ⟨xlo, xhi, xsl, xsh⟩⟩ := ⟨_, rfl⟩
      rw [← hlq] at HLQ HTN
      rw [← hrt] at HRT HTN
      clear hlq hrt
      have hx := HY.out
      obtain ⟨cy0, cy1, cy2, cy3, cy4, cy5⟩ := c6_of hx
      clear hx
      have hx := HA.out
      obtain ⟨ca0, ca1, ca2, ca3, ca4, ca5⟩ := c6_of hx
      clear hx
      go_wp2_with fail
      refine (HLQ.out _).mono ?_
      rintro e w10 ⟨rfl, hb⟩
      have HX := Lib.hid (hb.heap HX.out (by simp))
      have HY := Lib.hid (hb.heap HY.out (by simp))
      have HOP := Lib.hid (cell_but hb HOP.out (by simp))
      have HB10 := Lib.hid (HB9.out.trans hb (by simp))
      clear hb HB9 HLQ
      clear ca0 ca1 ca2 ca3 ca4 ca5 cy0 cy1 cy2 cy3 cy4 cy5
      cases lq with
      | false =>
        go_wp2_with fail
        go_roundw
        case rel => exact ⟨j + 1, by omega, by simp, HB10.out⟩
        case measure => simp only [intOf]; omega
      | true =>
        cases cb with
        | true =>
          go_wp2_with fail
          go_roundw
          case rel => exact ⟨j + 1, by omega, by simp, HB10.out⟩
          case measure => simp only [intOf]; omega
        | false =>
          have hx := HX.out
          obtain ⟨cx0, cx1, cx2, cx3, cx4, cx5⟩ := c6_of hx
          clear hx
          go_wp2_with fail
          refine (HRT.out _).mono ?_
          rintro e w11 ⟨rfl, hb⟩
          have HX := Lib.hid (hb.heap HX.out (by simp))
          have HY := Lib.hid (hb.heap HY.out (by simp))
          have HOP := Lib.hid (cell_but hb HOP.out (by simp))
          have HB11 := Lib.hid (HB10.out.trans hb (by simp))
          clear hb HB10 HRT
          clear cx0 cx1 cx2 cx3 cx4 cx5
          cases rt with
          | false =>
            go_wp2_with fail
            go_roundw
            case rel => exact ⟨j + 1, by omega, by simp, HB11.out⟩
            case measure => simp only [intOf]; omega
          | true =>
            have HB4 : Hid (∀ w, Calls Try.prog 12 #[.int .u8 (p : Int), .bool wide, .agg #[.int .u64 yv, .int .u64 ym, .int .u64 ylo, .int .u64 yhi, .int .i64 ysl, .int .i64 ysh], .agg #[.int .u64 xv, .int .u64 xm, .int .u64 xlo, .int .u64 xhi, .int .i64 xsl, .int .i64 xsh], .bool tk] w fun e w' => e = .returned (.tuple #[.agg #[.int .u64 ((0 : Nat) : Int), .int .u64 ((0 : Nat) : Int), .int .u64 ((0 : Nat) : Int), .int .u64 ((0 : Nat) : Int), .int .i64 0, .int .i64 0], .agg #[.int .u64 ((0 : Nat) : Int), .int .u64 ((0 : Nat) : Int), .int .u64 ((0 : Nat) : Int), .int .u64 ((0 : Nat) : Int), .int .i64 0, .int .i64 0], .bool false]) ∧ But [] w w') := Lib.hid (fun w => by
              have h := branch_c p wide tk ⟨⟨yv, ym⟩, ⟨ylo, yhi, ysl, ysh⟩⟩ ⟨⟨xv, xm⟩, ⟨xlo, xhi, xsl, xsh⟩⟩ w HO2.out HRS.out HRB.out
              unfold BrPost at h
              rw [HTN.out (by first | trivial | rfl) (by first | trivial | rfl) (by first | trivial | rfl)] at h
              exact h)
            go_wp2_with fail
            refine tu18 _ (v := 0) (m := 0) (lo := 0) (hi := 0) (sl := 0) (sh := 0) (cv := 0) (cm := 0) (cl := 0) (ch := 0) (dv := 0) (dm := 0) (dl := 0) (dh := 0) HI0 HI1 HX HY HOP HB4 ?_
            intro _ _ _ _ _ _ _ _ _ _ _ _ _ w12 k12 l12 hb hk hl hkl h1 h2
            have HB12 := Lib.hid (HB11.out.trans hb (by simp))
            have HC := Lib.hid h1
            have HD := Lib.hid h2
            clear hb hk hl hkl h1 h2 HB11
            have hx := HC.out
            obtain ⟨ca0, ca1, ca2, ca3, ca4, ca5⟩ := c6_of hx
            clear hx
            have hx := HD.out
            obtain ⟨cb0, cb1, cb2, cb3, cb4, cb5⟩ := c6_of hx
            clear hx
            go_wp2_with fail
            go_roundw
            case rel => exact ⟨j + 1, by omega, by simp, HB12.out⟩
            case measure => simp only [intOf]; omega
theorem turns_walk (w : World) (wide : Bool) (a b less : Sc) (tk : Bool) (ha : Rg a) (hb : Rg b) (hs : Rg less) : Calls Try.prog 5 #[.bool wide, a.val, b.val, less.val, .bool tk] w fun e w' => e = .returned (.bool true) ∧ Below w.heap.size w w' :=
  (turns_w w wide a b less tk ha hb hs).mono fun _ _ ⟨he, hb⟩ => ⟨he, hb.below (Nat.le_refl _) (by simp)⟩
end Go.Proofs.Ytmbmmcippglfoaa.M
