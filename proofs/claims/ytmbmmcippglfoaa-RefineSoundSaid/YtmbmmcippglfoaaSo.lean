/-
  RefineSound: the walk.
-/
import Derived.Test.YtmbmmcippglfoaaSoR
import Derived.Test.YtmbmmcippglfoaaSoT
import Derived.Test.YtmbmmcippglfoaaAwT
import Derived.Test.YtmbmmcippglfoaaScB
import Derived.Test.YtmbmmcippglfoaaScIn
namespace Go.Proofs.Ytmbmmcippglfoaa.M
open Go.RowKit Go.Shelf
set_option linter.unusedVariables false
set_option linter.unusedSectionVars false
set_option linter.unusedSimpArgs false

set_option maxRecDepth 100000 in
set_option maxHeartbeats 8000000 in
theorem sound_w (w : World) (wide : Bool) (a b : Sc) (x y : Int) (ha : Rg a) (hb : Rg b) (hx : (Lit.int .u64 x).wf = true) (hy : (Lit.int .u64 y).wf = true) : Calls Try.prog 6 #[.bool wide, a.val, b.val, .int .u64 x, .int .u64 y] w fun e w' => e = .returned (.bool true) ∧ But [] w w' := by
  obtain ⟨x, rfl, bx⟩ := wf_u64n hx
  obtain ⟨y, rfl, by_⟩ := wf_u64n hy
  obtain ⟨⟨v, m⟩, ⟨lo, hi, sl, sh⟩⟩ := a
  obtain ⟨⟨xv, xm⟩, ⟨xlo, xhi, xsl, xsh⟩⟩ := b
  have HRA := Lib.hid ha
  have HRB := Lib.hid hb
  have HXY := Lib.hid (And.intro bx by_)
  clear ha hb hx hy bx by_
  go_enter Try.func6, Try.ntmps6
  simp only [Sc.val]
  go_wp2_with fail
  refine (awake_c _).mono ?_
  rintro e w1 ⟨rfl, hb1⟩
  have hA : w1.heap[w.heap.size]? = some (.cells #[.int .u64 v, .int .u64 m, .int .u64 lo, .int .u64 hi, .int .i64 sl, .int .i64 sh] 28) := hb1.heap (by repeat (first | (with_reducible refine al_eq _ _ _ ?_; (simp only [size_alloc]; done)) | with_reducible refine al_keep ?_ _ | with_reducible refine dr_keep ?_)) (by simp)
  have hX : w1.heap[w.heap.size + 1]? = some (.cells #[.int .u64 xv, .int .u64 xm, .int .u64 xlo, .int .u64 xhi, .int .i64 xsl, .int .i64 xsh] 28) := hb1.heap (by repeat (first | (with_reducible refine al_eq _ _ _ ?_; (simp only [size_alloc]; done)) | with_reducible refine al_keep ?_ _ | with_reducible refine dr_keep ?_)) (by simp)
  have HB1 : Hid (But [] w w1) := Lib.hid ((by repeat (first | with_reducible exact But.refl _ _ | with_reducible refine But.drew ?_ | with_reducible refine But.alloc ?_ _) : But [] w _).trans hb1 (by simp))
  have HA := Lib.hid hA
  have HX := Lib.hid hX
  clear hA hX hb1
  obtain ⟨PA, hPA⟩ : ∃ n, n = w.heap.size := ⟨_, rfl⟩
  rw [← hPA] at HA HX ⊢
  clear hPA
  have HH1 := Lib.hid (fun w => scHas0 v m lo hi sl sh x w HRA.out)
  have HH2 := Lib.hid (fun w => scHas0 xv xm xlo xhi xsl xsh y w HRB.out)
  have hx := HA.out
  obtain ⟨ca0, ca1, ca2, ca3, ca4, ca5⟩ := c6_of hx
  clear hx
  go_wp2_with fail
  refine (HH1.out _).mono ?_
  rintro e w2 ⟨rfl, hb⟩
  have HA := Lib.hid (hb.heap HA.out (by simp))
  have HX := Lib.hid (hb.heap HX.out (by simp))
  have HB2 := Lib.hid (HB1.out.trans hb (by simp))
  clear hb HB1 HH1
  clear ca0 ca1 ca2 ca3 ca4 ca5
  cases hq1 : hasT ⟨⟨v, m⟩, ⟨lo, hi, sl, sh⟩⟩ x with
  | false =>
    clear hq1
    go_wp2_with fail
    go_ret
    exact ⟨rfl, HB2.out⟩
  | true =>
    have HQ1 := Lib.hid hq1
    clear hq1
    have hx := HX.out
    obtain ⟨cb0, cb1, cb2, cb3, cb4, cb5⟩ := c6_of hx
    clear hx
    go_wp2_with fail
    refine (HH2.out _).mono ?_
    rintro e w3 ⟨rfl, hb⟩
    have HA := Lib.hid (hb.heap HA.out (by simp))
    have HX := Lib.hid (hb.heap HX.out (by simp))
    have HB3 := Lib.hid (HB2.out.trans hb (by simp))
    clear hb HB2 HH2
    clear cb0 cb1 cb2 cb3 cb4 cb5
    cases hq2 : hasT ⟨⟨xv, xm⟩, ⟨xlo, xhi, xsl, xsh⟩⟩ y with
    | false =>
      clear hq2
      go_wp2_with fail
      go_ret
      exact ⟨rfl, HB3.out⟩
    | true =>
      have HQ2 := Lib.hid hq2
      clear hq2
      go_wp2_with fail
      refine (comparisons_c _).mono ?_
      rintro e w4 ⟨rfl, hw⟩
      have hb : But [] w3 w4 := by rw [hw]; exact (But.refl [] w3).alloc _
      have HL : Hid (w4.heap[w3.heap.size]? = some (.cells cmpCells 5)) := Lib.hid (by rw [hw]; exact al_at _ _)
      have HA := Lib.hid (hb.heap HA.out (by simp))
      have HX := Lib.hid (hb.heap HX.out (by simp))
      have HB4 := Lib.hid (HB3.out.trans hb (by simp))
      clear hb hw HB3
      obtain ⟨L1, hL1⟩ : ∃ n, n = w3.heap.size := ⟨_, rfl⟩
      rw [← hL1] at HL ⊢
      clear hL1
      go_wp2_with fail
      go_loopw [12] (fun i wr => ∃ j : Nat, j ≤ 11 ∧ i = .int .i64 (j : Int) ∧ But [] w4 wr) (fun i wr => (11 - intOf i).toNat)
      case atStart => exact ⟨0, by omega, rfl, But.refl _ _⟩
      case round =>
        obtain ⟨j, hj, rfl, hbr⟩ := hrel
        have hA := hbr.heap HA.out (by simp)
        have hX := hbr.heap HX.out (by simp)
        have hL := hbr.heap HL.out (by simp)
        clear HA HX HL
        have HA := Lib.hid hA
        have HX := Lib.hid hX
        have HL := Lib.hid hL
        have HBR := Lib.hid (HB4.out.trans hbr (by simp))
        have HBJ := Lib.hid hbr
        clear hA hX hL hbr
        by_cases hj6 : j = 11
        · subst hj6
          go_wp2_with fail
          go_ret
          exact ⟨rfl, HBR.out⟩
        have hjl : j < 11 := by omega
        have HOP := Lib.hid (cmp_cell HL.out hjl)
        have HOK := Lib.hid (cmpA_ok hjl)
        obtain ⟨p, hp⟩ : ∃ p, p = cmpA j := ⟨_, rfl⟩
        rw [← hp] at HOP HOK
        clear hp
        have HI0 : Hid ((0 : Int) ≤ (j : Int)) := Lib.hid (by omega)
        have HI1 : Hid ((j : Int) < 11) := Lib.hid (by omega)
        have hlt : (j : Int) < 11 := HI1.out
        obtain ⟨t, ht⟩ := testW_is HOK.out.1 wide (x : Int) (y : Int)
        have HTC := Lib.hid (fun w => wtest_c p x y wide t HOK.out.2 HXY.out.1 HXY.out.2 ht w)
        obtain ⟨⟨⟨cv, cm⟩, ⟨cl, ch, ci, cj⟩⟩, ⟨⟨dv, dm⟩, ⟨dl, dh, di, dj⟩⟩, hbt, rc, rd, k1, k2, k3, k4, k5, k6⟩ := sound_branch (t := t) HOK.out.1 HXY.out.1 HXY.out.2 HRA.out HRB.out HQ1.out HQ2.out (fun hw => Option.some.inj (ht.symm.trans (testW_test HOK.out.1 HXY.out.1 HXY.out.2 hw)))
        have HBP : Hid (∀ w, Calls Try.prog 12 #[.int .u8 (p : Int), .bool wide, .agg #[.int .u64 v, .int .u64 m, .int .u64 lo, .int .u64 hi, .int .i64 sl, .int .i64 sh], .agg #[.int .u64 xv, .int .u64 xm, .int .u64 xlo, .int .u64 xhi, .int .i64 xsl, .int .i64 xsh], .bool t] w fun e w' => e = .returned (.tuple #[.agg #[.int .u64 cv, .int .u64 cm, .int .u64 cl, .int .u64 ch, .int .i64 ci, .int .i64 cj], .agg #[.int .u64 dv, .int .u64 dm, .int .u64 dl, .int .u64 dh, .int .i64 di, .int .i64 dj], .bool true]) ∧ But [] w w') := Lib.hid (fun w => by
          have h := branch_c p wide t ⟨⟨v, m⟩, ⟨lo, hi, sl, sh⟩⟩ ⟨⟨xv, xm⟩, ⟨xlo, xhi, xsl, xsh⟩⟩ w HOK.out.2 HRA.out HRB.out
          unfold BrPost at h
          rw [hbt] at h
          exact h)
        have H1 := Lib.hid (fun w => by have h := scHas0 cv cm cl ch ci cj x w rc; rw [k1] at h; exact h)
        have H2 := Lib.hid (fun w => by have h := scHas0 dv dm dl dh di dj y w rd; rw [k2] at h; exact h)
        have H3 := Lib.hid (fun w => by have h := scRight0 cv cm cl ch ci cj w rc; rw [k3] at h; exact h)
        have H4 := Lib.hid (fun w => by have h := scRight0 dv dm dl dh di dj w rd; rw [k4] at h; exact h)
        have H5 := Lib.hid (fun w => by have h := scLeq0 cv cm cl ch v m lo hi ci cj sl sh w rc HRA.out; rw [k5] at h; exact h)
        have H6 := Lib.hid (fun w => by have h := scLeq0 dv dm dl dh xv xm xlo xhi di dj xsl xsh w rd HRB.out; rw [k6] at h; exact h)
        clear ht hbt rc rd k1 k2 k3 k4 k5 k6 hj6 hj
        have hop := HOP.out
        go_wp2_with fail
        refine (HTC.out _).mono ?_
        rintro e w5 ⟨rfl, hb⟩
        clear hop
        have HA := Lib.hid (hb.heap HA.out (by simp))
        have HX := Lib.hid (hb.heap HX.out (by simp))
        have HL := Lib.hid (hb.heap HL.out (by simp))
        have HOP := Lib.hid (cell_but hb HOP.out (by simp))
        have HB5 := Lib.hid (HBJ.out.trans hb (by simp))
        clear hb HBJ HBR HTC
        go_wp2_with fail
        refine so10 _ HI0 HI1 HA HX HOP HBP ?_
        intro _ _ _ _ _ _ _ _ _ _ _ _ _ w6 k6 l6 hb hk hl hkl h1 h2
        have HA := Lib.hid (hb.heap HA.out (by simp))
        have HX := Lib.hid (hb.heap HX.out (by simp))
        have HL := Lib.hid (hb.heap HL.out (by simp))
        have HC := Lib.hid h1
        have HD := Lib.hid h2
        have HB6 := Lib.hid (HB5.out.trans hb (by simp))
        clear hb hk hl hkl h1 h2 HB5 HBP HOP
        have hx := HC.out
        obtain ⟨cc0, cc1, cc2, cc3, cc4, cc5⟩ := c6_of hx
        clear hx
        go_wp2_with fail
        refine (H1.out _).mono ?_
        rintro e w7 ⟨rfl, hb⟩
        clear cc0 cc1 cc2 cc3 cc4 cc5
        have HA := Lib.hid (hb.heap HA.out (by simp))
        have HX := Lib.hid (hb.heap HX.out (by simp))
        have HC := Lib.hid (hb.heap HC.out (by simp))
        have HD := Lib.hid (hb.heap HD.out (by simp))
        have HB7 := Lib.hid (HB6.out.trans hb (by simp))
        clear hb HB6 H1
        have hx := HD.out
        obtain ⟨cd0, cd1, cd2, cd3, cd4, cd5⟩ := c6_of hx
        clear hx
        go_wp2_with fail
        refine (H2.out _).mono ?_
        rintro e w8 ⟨rfl, hb⟩
        clear cd0 cd1 cd2 cd3 cd4 cd5
        have HA := Lib.hid (hb.heap HA.out (by simp))
        have HX := Lib.hid (hb.heap HX.out (by simp))
        have HC := Lib.hid (hb.heap HC.out (by simp))
        have HD := Lib.hid (hb.heap HD.out (by simp))
        have HB8 := Lib.hid (HB7.out.trans hb (by simp))
        clear hb HB7 H2
        have hx := HC.out
        obtain ⟨cc0, cc1, cc2, cc3, cc4, cc5⟩ := c6_of hx
        clear hx
        go_wp2_with fail
        refine (H3.out _).mono ?_
        rintro e w9 ⟨rfl, hb⟩
        clear cc0 cc1 cc2 cc3 cc4 cc5
        have HA := Lib.hid (hb.heap HA.out (by simp))
        have HX := Lib.hid (hb.heap HX.out (by simp))
        have HC := Lib.hid (hb.heap HC.out (by simp))
        have HD := Lib.hid (hb.heap HD.out (by simp))
        have HB9 := Lib.hid (HB8.out.trans hb (by simp))
        clear hb HB8 H3
        have hx := HD.out
        obtain ⟨cd0, cd1, cd2, cd3, cd4, cd5⟩ := c6_of hx
        clear hx
        go_wp2_with fail
        refine (H4.out _).mono ?_
        rintro e w10 ⟨rfl, hb⟩
        clear cd0 cd1 cd2 cd3 cd4 cd5
        have HA := Lib.hid (hb.heap HA.out (by simp))
        have HX := Lib.hid (hb.heap HX.out (by simp))
        have HC := Lib.hid (hb.heap HC.out (by simp))
        have HD := Lib.hid (hb.heap HD.out (by simp))
        have HB10 := Lib.hid (HB9.out.trans hb (by simp))
        clear hb HB9 H4
        have hx := HC.out
        obtain ⟨cc0, cc1, cc2, cc3, cc4, cc5⟩ := c6_of hx
        clear hx
        have hx := HA.out
        obtain ⟨ca0, ca1, ca2, ca3, ca4, ca5⟩ := c6_of hx
        clear hx
        go_wp2_with fail
        refine (H5.out _).mono ?_
        rintro e w11 ⟨rfl, hb⟩
        clear cc0 cc1 cc2 cc3 cc4 cc5 ca0 ca1 ca2 ca3 ca4 ca5
        have HA := Lib.hid (hb.heap HA.out (by simp))
        have HX := Lib.hid (hb.heap HX.out (by simp))
        have HC := Lib.hid (hb.heap HC.out (by simp))
        have HD := Lib.hid (hb.heap HD.out (by simp))
        have HB11 := Lib.hid (HB10.out.trans hb (by simp))
        clear hb HB10 H5
        have hx := HD.out
        obtain ⟨cd0, cd1, cd2, cd3, cd4, cd5⟩ := c6_of hx
        clear hx
        have hx := HX.out
        obtain ⟨cx0, cx1, cx2, cx3, cx4, cx5⟩ := c6_of hx
        clear hx
        go_wp2_with fail
        refine (H6.out _).mono ?_
        rintro e w12 ⟨rfl, hb⟩
        clear cd0 cd1 cd2 cd3 cd4 cd5 cx0 cx1 cx2 cx3 cx4 cx5
        have HA := Lib.hid (hb.heap HA.out (by simp))
        have HX := Lib.hid (hb.heap HX.out (by simp))
        have HC := Lib.hid (hb.heap HC.out (by simp))
        have HD := Lib.hid (hb.heap HD.out (by simp))
        have HB12 := Lib.hid (HB11.out.trans hb (by simp))
        clear hb HB11 H6
        go_wp2_with fail
        go_roundw
        case rel => exact ⟨j + 1, by omega, by simp, HB12.out⟩
        case measure => simp only [intOf]; omega
theorem sound_walk (w : World) (wide : Bool) (a b : Sc) (x y : Int) (ha : Rg a) (hb : Rg b) (hx : (Lit.int .u64 x).wf = true) (hy : (Lit.int .u64 y).wf = true) : Calls Try.prog 6 #[.bool wide, a.val, b.val, .int .u64 x, .int .u64 y] w fun e w' => e = .returned (.bool true) ∧ Below w.heap.size w w' :=
  (sound_w w wide a b x y ha hb hx hy).mono fun _ _ ⟨he, hb⟩ => ⟨he, hb.below (Nat.le_refl _) (by simp)⟩
end Go.Proofs.Ytmbmmcippglfoaa.M
