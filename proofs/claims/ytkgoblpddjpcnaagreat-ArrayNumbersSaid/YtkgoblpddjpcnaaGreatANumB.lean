/-
  'ArrayNumbers' tells true: the walk.
-/
import Derived.Test.YtkgoblpddjpcnaaGreatANumR
import Derived.Test.YtkgoblpddjpcnaaGreatArrNil
import Derived.OpenShut
import Derived.Deep.DeepCutAuto
import Derived.Deep.CutBlock
namespace Go.Proofs.YtkgoblpddjpcnaaGreat.M
open Go.RowKit Go.Shelf
set_option linter.unusedVariables false
set_option linter.unusedSectionVars false
set_option linter.unusedSimpArgs false
set_option maxRecDepth 100000 in
set_option maxHeartbeats 8000000 in
theorem arrayNumbers (w : World) : Calls Tryz.prog 4 #[] w fun e w' => e = .returned (.bool true) ∧ But [] w w' := by
  obtain ⟨W0, hW0⟩ : ∃ W0, W0 = w.alloc (.cells #[.int .i64 (-9223372036854775808), .int .i64 (-1), .int .i64 0, .int .i64 1, .int .i64 2, .int .i64 3, .int .i64 4, .int .i64 5, .int .i64 1024, .int .i64 1025, .int .i64 9223372036854775807] 3) := ⟨_, rfl⟩
  have hb0 : But [] w W0 := by rw [hW0]; exact (But.refl [] w).alloc _
  have hnum : W0.heap[w.heap.size]? = some (.cells nums11 3) := by rw [hW0]; exact al_at w _
  have HW := Lib.hid hW0
  have HNUM := Lib.hid hnum
  have HB0 := Lib.hid hb0
  clear hW0 hnum hb0
  go_enter Tryz.func4, Tryz.ntmps4
  go_upto_block 0 with fail
  rw [← HW.out]
  clear HW
  go_cut [] (fun wx => But [] W0 wx)
  case first =>
    go_wp2_with fail
    go_loopw [2] (fun i wr => ∃ n : Nat, n ≤ 11 ∧ i = .int .i64 n ∧ But [] W0 wr) (fun i _ => 11 - (intOf i).toNat)
    case atStart => exact ⟨0, by omega, rfl, But.refl _ _⟩
    case round =>
      obtain ⟨n, hn, rfl, hb⟩ := hrel
      have HB := Lib.hid hb
      clear hb
      by_cases hlt : n < 11
      · obtain ⟨x, hx, hxw⟩ := nums_int n hlt
        have HX := Lib.hid hx
        clear hx hxw
        have hn0 : (0 : Int) ≤ n := by omega
        have hn9 : (n : Int) < 11 := by omega
        go_wp2_with fail
        go_loopw [3] (fun k wr' => ∃ m : Nat, m ≤ 11 ∧ k = .int .i64 m ∧ But [] W0 wr') (fun k _ => 11 - (intOf k).toNat)
        case atStart => exact ⟨0, by omega, rfl, HB.out⟩
        case round =>
          obtain ⟨m, hm, rfl, hb⟩ := hrel
          have HB' := Lib.hid hb
          clear hb
          by_cases hlt2 : m < 11
          · have hm0 : (0 : Int) ≤ m := by omega
            have hm30 : (m : Int) < 11 := by omega
            go_wp2_with fail
            go_loopw [4] (fun k wr'' => ∃ q : Nat, q ≤ 9 ∧ k = .int .i64 q ∧ But [] W0 wr'') (fun k _ => 9 - (intOf k).toNat)
            case atStart => exact ⟨0, by omega, rfl, HB'.out⟩
            case round =>
              obtain ⟨q, hq, rfl, hb⟩ := hrel
              have HB2 := Lib.hid hb
              have c1 : wr.cell? ⟨w.heap.size, n, none⟩ = some (.int .i64 x) := cell_but hb (by rw [at_cells HNUM.out]; exact HX.out) (by simp)
              clear hb
              by_cases hlt3 : q < 9
              · have hq0 : (0 : Int) ≤ q := by omega
                have hq9 : (q : Int) < 9 := by omega
                have hwl := cell_lt c1
                go_upto_block 6 with fail
                go_cut [] (fun wx => ∃ kk key val ent : Int, wx.heap[wr.heap.size]? = some (.cells #[.int .u8 kk, .int .i64 key, .int .i64 val, .int .i64 ent] 24) ∧ (Lit.int .u8 kk).wf = true ∧ But [] W0 wx)
                case first =>
                  go_wp2_with fail
                  all_goals
                    go_meet
                    exact ⟨_, _, _, _, al_at _ _, wf_small _ (by omega) (by omega), (HB2.out.alloc _)⟩
                case rest =>
                  obtain ⟨k, key, val, ent, hbox, hwf, hbc⟩ := hcut
                  have d0 : wc.cell? ⟨wr.heap.size, 0, none⟩ = some (.int .u8 k) := cl_of hbox 0
                  have d1 : wc.cell? ⟨wr.heap.size, 1, none⟩ = some (.int .i64 key) := cl_of hbox 1
                  have d2 : wc.cell? ⟨wr.heap.size, 2, none⟩ = some (.int .i64 val) := cl_of hbox 2
                  have d3 : wc.cell? ⟨wr.heap.size, 3, none⟩ = some (.int .i64 ent) := cl_of hbox 3
                  have HBOX := Lib.hid hbox
                  have HWF := Lib.hid hwf
                  have HBC := Lib.hid hbc
                  clear hbox hwf hbc c1
                  by_cases hE : specE k key val ent = 0
                  · by_cases h1 : k = 1
                    · subst h1
                      obtain ⟨rfl, hv1, hv2, he1, he2⟩ := specE_array hE
                      obtain ⟨vn, rfl⟩ : ∃ n : Nat, val = (n : Int) := ⟨val.toNat, by omega⟩
                      obtain ⟨en, rfl⟩ : ∃ m : Nat, ent = (m : Int) := ⟨ent.toNat, by omega⟩
                      have HSE := Lib.hid hE
                      clear hE
                      go_wp2_with fail
                      refine (newArr vn en (by omega) (by omega) HSE.out (fun _ => True) (fun _ _ => trivial)).mono ?_
                      rintro e w2 ⟨A, rfl, hS2, hb2⟩
                      have hh := hb2.heap HBOX.out (by simp)
                      have HB3 : Hid (But [] W0 w2) := Lib.hid (HBC.out.trans hb2 (by simp))
                      have f0 : w2.cell? ⟨wr.heap.size, 0, none⟩ = some (.int .u8 1) := cl_of hh 0
                      have f1 : w2.cell? ⟨wr.heap.size, 1, none⟩ = some (.int .i64 4) := cl_of hh 1
                      have f2 : w2.cell? ⟨wr.heap.size, 2, none⟩ = some (.int .i64 vn) := cl_of hh 2
                      have f3 : w2.cell? ⟨wr.heap.size, 3, none⟩ = some (.int .i64 en) := cl_of hh 3
                      clear hh hb2 hS2 d0 d1 d2 d3
                      go_wp2_with fail
                      refine (refNewArr vn en _ (by omega) (by omega) HSE.out (fun _ => True) (fun _ _ => trivial)).mono ?_
                      rintro e w3 ⟨X, rfl, hR3, hb3⟩
                      have HB4 : Hid (But [] W0 w3) := Lib.hid (HB3.out.trans hb3 (by simp))
                      clear hR3 hb3
                      go_wp2_with fail
                      go_roundw
                      case rel => exact ⟨q + 1, by omega, by go_num, HB4.out⟩
                      case measure => simp [intOf]; omega
                    · have HE := Lib.hid hE
                      have h1' : (k == 1) = false := by simp only [beq_eq_false_iff_ne, ne_eq]; exact h1
                      clear hE h1
                      go_wp2_with fail
                      refine (newKind k key val ent HWF.out HE.out h1').mono ?_
                      rintro e w2 ⟨rfl, hb2⟩
                      have hh := hb2.heap HBOX.out (by simp)
                      have HB3 : Hid (But [] W0 w2) := Lib.hid (HBC.out.trans hb2 (by simp))
                      have f0 : w2.cell? ⟨wr.heap.size, 0, none⟩ = some (.int .u8 k) := cl_of hh 0
                      have f1 : w2.cell? ⟨wr.heap.size, 1, none⟩ = some (.int .i64 key) := cl_of hh 1
                      have f2 : w2.cell? ⟨wr.heap.size, 2, none⟩ = some (.int .i64 val) := cl_of hh 2
                      have f3 : w2.cell? ⟨wr.heap.size, 3, none⟩ = some (.int .i64 ent) := cl_of hh 3
                      clear hh hb2 d0 d1 d2 d3
                      go_wp2_with fail
                      refine (refNewKind k key val ent _ HE.out h1').mono ?_
                      rintro e w3 ⟨rfl, hb3⟩
                      have HB4 : Hid (But [] W0 w3) := Lib.hid (HB3.out.trans hb3 (by simp))
                      clear hb3
                      go_wp2_with fail
                      go_roundw
                      case rel => exact ⟨q + 1, by omega, by go_num, HB4.out⟩
                      case measure => simp [intOf]; omega
                  · obtain ⟨E, hEE⟩ : ∃ E, specE k key val ent = E := ⟨_, rfl⟩
                    rw [hEE] at hE
                    have h0 : (E == 0) = false := by simpa using hE
                    have h0' : (E != E) = false := by simp
                    have HE := Lib.hid hEE
                    clear hE hEE
                    go_wp2_with fail
                    refine (newErr k key val ent E HWF.out HE.out h0).mono ?_
                    rintro e w2 ⟨rfl, hb2⟩
                    have hh := hb2.heap HBOX.out (by simp)
                    have HB3 : Hid (But [] W0 w2) := Lib.hid (HBC.out.trans hb2 (by simp))
                    have f0 : w2.cell? ⟨wr.heap.size, 0, none⟩ = some (.int .u8 k) := cl_of hh 0
                    have f1 : w2.cell? ⟨wr.heap.size, 1, none⟩ = some (.int .i64 key) := cl_of hh 1
                    have f2 : w2.cell? ⟨wr.heap.size, 2, none⟩ = some (.int .i64 val) := cl_of hh 2
                    have f3 : w2.cell? ⟨wr.heap.size, 3, none⟩ = some (.int .i64 ent) := cl_of hh 3
                    clear hh hb2 d0 d1 d2 d3
                    go_wp2_with fail
                    refine (refNewErr k key val ent E _ HE.out h0).mono ?_
                    rintro e w3 ⟨rfl, hb3⟩
                    have HB4 : Hid (But [] W0 w3) := Lib.hid (HB3.out.trans hb3 (by simp))
                    clear hb3
                    go_wp2_with fail
                    go_roundw
                    case rel => exact ⟨q + 1, by omega, by go_num, HB4.out⟩
                    case measure => simp [intOf]; omega
              · obtain rfl : q = 9 := by omega
                go_wp2_with fail
                go_roundw
                case rel => exact ⟨m + 1, by omega, by go_num, HB2.out⟩
                case measure => simp [intOf]; omega
          · obtain rfl : m = 11 := by omega
            go_wp2_with fail
            go_roundw
            case rel => exact ⟨n + 1, by omega, by go_num, HB'.out⟩
            case measure => simp [intOf]; omega
      · obtain rfl : n = 11 := by omega
        go_wp2_with fail
        go_meet
        exact HB.out
  case rest =>
    have HB1 : Hid (But [] W0 wc) := Lib.hid hcut
    clear hcut
    go_upto_block 7 with fail
    obtain ⟨S, hS⟩ : ∃ S, S = wc.heap.size := ⟨_, rfl⟩
    have hsb := al_at wc (.cells #[.int .u8 1, .int .i64 4, .int .i64 3, .int .i64 2] 24)
    rw [← hS] at hsb
    have HSB := Lib.hid hsb
    have HB2 : Hid (But [] W0 (wc.alloc (.cells #[.int .u8 1, .int .i64 4, .int .i64 3, .int .i64 2] 24))) := Lib.hid (HB1.out.alloc _)
    obtain ⟨W1, hW1⟩ : ∃ W1, W1 = wc.alloc (.cells #[.int .u8 1, .int .i64 4, .int .i64 3, .int .i64 2] 24) := ⟨_, rfl⟩
    rw [← hS, ← hW1]
    rw [← hW1] at HSB HB2
    clear hS hW1 hsb HB1
    go_cut [] (fun wx => But [] W1 wx)
    case first =>
      go_wp2_with fail
      go_loopw [11] (fun i wr => ∃ n : Nat, n ≤ 11 ∧ i = .int .i64 n ∧ But [] W1 wr) (fun i _ => 11 - (intOf i).toNat)
      case atStart => exact ⟨0, by omega, rfl, But.refl _ _⟩
      case round =>
        obtain ⟨i, hi, rfl, hb⟩ := hrel
        have HB := Lib.hid hb
        clear hb
        by_cases hlt : i < 11
        · have hn0 : (0 : Int) ≤ i := by omega
          have hn9 : (i : Int) < 11 := by omega
          go_upto_block 9 with fail
          go_cut [12] (fun lv wx => ∃ ds, RowD W1.heap.size lv wx ds ∧ ds.length = 77 ∧ But [] W1 wx)
          case first =>
            have HD0 : Hid (RowD W1.heap.size (.slice none 0 0) wr []) := Lib.hid (RowD.nil _ _)
            go_wp2_with fail
            go_loopw [12, 13] (fun lv kk wr => ∃ (k : Nat) (ds : List DeedA), k ≤ 11 ∧ kk = .int .i64 k ∧ RowD W1.heap.size lv wr ds ∧ ds.length = 7 * k ∧ But [] W1 wr) (fun _ kk _ => 11 - (intOf kk).toNat)
            case atStart => exact ⟨0, [], by omega, rfl, HD0.out, rfl, HB.out⟩
            case round =>
              obtain ⟨k, ds, hk, rfl, hD, hdl, hb⟩ := hrel
              obtain ⟨la, lc, rfl⟩ := row_form hD.row
              have HB2' := Lib.hid hb
              have HD := Lib.hid hD
              have hds : ds.length ≤ 100 := by omega
              have HDL := Lib.hid hdl
              clear hb hD HD0 hdl
              by_cases hlt2 : k < 11
              · have hk0 : (0 : Int) ≤ k := by omega
                have hk9 : (k : Int) < 11 := by omega
                obtain ⟨x, hx, hxw⟩ := nums_int k hlt2
                have c1 : wr.cell? ⟨w.heap.size, k, none⟩ = some (.int .i64 x) := cell_but (HB2.out.trans HB2'.out (by simp)) (by rw [at_cells HNUM.out]; exact hx) (by simp)
                have hwl := cell_lt c1
                clear hx hxw
                have kc := fun (w : World) (C : Array Value) (n c : Nat) => Lib.run_convert_bytes_const (P := Tryz.prog) w 36 5 C n c Tryz.underlying36 Tryz.underlying5
                go_upto_region 30 with fail
                go_cut [14] (fun bv wx => ∃ bl : Nat, bv = .slice (some ⟨wr.heap.size, 0, none⟩) bl 6 ∧ ByG (.slice (some ⟨wr.heap.size, 0, none⟩) bl 6) wx ∧ But [] wr wx)
                case first =>
                  have KEY : Hid (∀ bl : Nat, bl ≤ 6 → ByG (.slice (some ⟨wr.heap.size, 0, none⟩) bl 6) (wr.alloc (.cells #[.int .u8 97, .int .u8 98, .int .u8 99, .int .u8 100, .int .u8 101, .int .u8 102] 5 (6, 7)))) := Lib.hid fun bl hbl => cut_six (al_at _ _) hbl
                  by_cases hx0 : x < 0
                  · have hx0' : ¬ (6 : Int) < 0 := by decide
                    go_wp2_with fail
                    go_meet
                    exact ⟨0, rfl, KEY.out 0 (by omega), (But.refl [] wr).alloc _⟩
                  · by_cases hx6 : (6 : Int) < x
                    · go_wp2_with fail
                      go_meet
                      exact ⟨6, rfl, KEY.out 6 (by omega), (But.refl [] wr).alloc _⟩
                    · obtain ⟨m, rfl⟩ : ∃ m : Nat, x = (m : Int) := ⟨x.toNat, by omega⟩
                      have hm6 : (m : Int) ≤ 6 := by omega
                      have hm0 : (0 : Int) ≤ m := by omega
                      clear hx0
                      go_wp2_with fail
                      go_meet
                      exact ⟨m, rfl, KEY.out m (by omega), (But.refl [] wr).alloc _⟩
                case rest =>
                  clear kc
                  obtain ⟨bl, hu14, hby, hbw⟩ := hcut
                  subst hu14
                  have HBWC : Hid (But [] W1 wc) := Lib.hid (HB2'.out.trans hbw (by simp))
                  have HNC : Hid (wc.heap[w.heap.size]? = some (.cells nums11 3)) := Lib.hid (((HB2.out.trans HBWC.out (by simp))).heap HNUM.out (by simp))
                  have HDC := Lib.hid (HD.out.new hbw)
                  have HBY := Lib.hid hby
                  clear hbw hby c1 hwl
                  refine (by assumption : ∀ (a : Act) (w1 : World), Code.wp _ _ _ a w1 → _) _ _ ?_
                  refine n31 _ hlt hlt2 HNC.out HBY.out HDC.out HBWC.out.size (by omega) ?_
                  intro z12 z96 z97 z98 z99 z100 z101 z102 z103 z104 z105 z106 z107 z108 z109 z110 z111 z112 z113 z114 z115 z116 z117 z118 z119 z120 z121 z122 z123 z124 z125 z126 z127 z128 z129 z130 z131 z132 z133 z134 z135 z136 z137 z138 z139 z140 z141 z142 z143 w2 hrel
                  obtain ⟨ds2, L2, hl2, hD2, hb2, hL2⟩ := hrel
                  obtain ⟨la2, lc2, rfl⟩ := row_form hD2.row
                  have HD2 := Lib.hid hD2
                  have HL2 : Hid (ds2.length = 7 * (k + 1)) := Lib.hid (by have := HDL.out; omega)
                  have HBW2 : Hid (But [] W1 w2) := Lib.hid (HBWC.out.trans hb2 (fun x hx => .inr (hL2 x hx)))
                  clear hl2 hD2 hb2 hL2
                  unfold NUMS
                  go_wp2_with fail
                  go_roundw
                  case rel => exact ⟨k + 1, ds2, by omega, by go_num, HD2.out, HL2.out, HBW2.out⟩
                  case measure => simp [intOf]; omega
              · obtain rfl : k = 11 := by omega
                go_wp2_with fail
                go_meet
                exact ⟨ds, HD.out, by rw [HDL.out], HB2'.out⟩
          case rest =>
            obtain ⟨ds, hD, hdl, hbc⟩ := hcut
            obtain ⟨la, lc, rfl⟩ := row_form hD.row
            have HSB2 := Lib.hid (hbc.heap HSB.out (by simp))
            have s0 : wc.cell? ⟨S, 0, none⟩ = some (.int .u8 1) := cl_of HSB2.out 0
            have s1 : wc.cell? ⟨S, 1, none⟩ = some (.int .i64 4) := cl_of HSB2.out 1
            have s2 : wc.cell? ⟨S, 2, none⟩ = some (.int .i64 3) := cl_of HSB2.out 2
            have s3 : wc.cell? ⟨S, 3, none⟩ = some (.int .i64 2) := cl_of HSB2.out 3
            have HSD := Lib.hid hD.sees
            have HBC := Lib.hid hbc
            have hdl2 : ds.length ≤ 3518437208780 := by omega
            clear hD hdl hbc
            go_wp2_with fail
            refine (arrayLives 1 4 3 2 _ ds _ rfl HSD.out hdl2).mono ?_
            rintro e w5 ⟨rfl, hb5⟩
            have HB5 : Hid (But [] W1 w5) := Lib.hid (HBC.out.trans hb5 (by simp))
            clear hb5
            go_wp2_with fail
            go_roundw
            case rel => exact ⟨i + 1, by omega, by go_num, HB5.out⟩
            case measure => simp [intOf]; omega
        · obtain rfl : i = 11 := by omega
          go_wp2_with fail
          go_meet
          exact HB.out
    case rest =>
      have HB3 : Hid (But [] w wc) := Lib.hid ((HB0.out.trans HB2.out (by simp)).trans hcut (by simp))
      clear hcut
      go_wp2_with fail
      refine (arrayLives 0 0 0 0 _ [] _ rfl ⟨none, 0, rfl, fun i d h => by simp at h⟩ (by simp)).mono ?_
      rintro e w5 ⟨rfl, hb5⟩
      have HB5 : Hid (But [] w w5) := Lib.hid (HB3.out.trans hb5 (by simp))
      clear hb5
      go_wp2_with fail
      refine (arrayNil 0 0 0 0 none none 0 0 0 0 _).mono ?_
      rintro e w6 ⟨rfl, hb6⟩
      have HB6 : Hid (But [] w w6) := Lib.hid (HB5.out.trans hb6 (by simp))
      clear hb6
      go_wp2_with fail
      refine (awake _).mono ?_
      rintro e w7 ⟨rfl, hb7⟩
      have HB7 : Hid (But [] w w7) := Lib.hid (HB6.out.trans hb7 (by simp))
      clear hb7
      go_wp2_with fail
      go_ret
      exact ⟨rfl, HB7.out⟩
theorem arrayNumbers_walk (w : World) : Calls Tryz.prog 4 #[] w fun e w' => e = .returned (.bool true) ∧ Below w.heap.size w w' :=
  (arrayNumbers w).mono fun _ _ ⟨he, hb⟩ => ⟨he, hb.below (Nat.le_refl _) (by simp)⟩
end Go.Proofs.YtkgoblpddjpcnaaGreat.M
