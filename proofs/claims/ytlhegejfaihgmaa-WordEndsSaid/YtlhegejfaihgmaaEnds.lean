/-
  WordEnds: the walk.
-/
import Derived.Test.YtlhegejfaihgmaaEndsR
import Derived.Deep.CutBlock
import Derived.Deep.RegionHeld3
import Derived.Deep.DrawnRows
namespace Go.Proofs.Ytlhegejfaihgmaa.M
open Go.RowKit
set_option linter.unusedVariables false
set_option linter.unusedSectionVars false
set_option linter.unusedSimpArgs false
attribute [local go_sem ↓] Go.wp_at_zero Go.wp_at_succ
set_option maxRecDepth 100000 in
set_option maxHeartbeats 4000000 in
theorem ends (w : World) : Calls Try.prog 3 #[] w fun e w' => e = .returned (.bool true) ∧ Sp.Ok w w' := by
  go_enter Try.func3, Try.ntmps3
  go_wp2_with fail
  refine (Top.awake _).mono ?_
  rintro e w1 ⟨rfl, hk1⟩
  have HK1 := Lib.hid hk1
  clear hk1
  go_upto_region 5 with fail
  obtain ⟨B1, hB1⟩ : ∃ B, B = w1.heap.size := ⟨_, rfl⟩
  obtain ⟨B2, hB2⟩ : ∃ B, B = w1.heap.size + 1 := ⟨_, rfl⟩
  rw [← hB2, ← hB1]
  obtain ⟨W2, hW2⟩ : ∃ W2, W2 = (w1.alloc (.cells #[.int .u64 0, .int .u64 1, .int .u64 2, .int .u64 7, .int .u64 31, .int .u64 32, .int .u64 33, .int .u64 63, .int .u64 64, .int .u64 127, .int .u64 128, .int .u64 255, .int .u64 256, .int .u64 32767, .int .u64 32768, .int .u64 2147483647, .int .u64 2147483648, .int .u64 4294967295, .int .u64 4294967296, .int .u64 4294967297, .int .u64 9223372036854775807, .int .u64 9223372036854775808, .int .u64 9223372036854775809, .int .u64 18446744073709551614, .int .u64 18446744073709551615] 23)).alloc (.cells #[.int .i16 0, .int .i16 1, .int .i16 2, .int .i16 8, .int .i16 16, .int .i16 32, .int .i16 (-1), .int .i16 64] 25) := ⟨_, rfl⟩
  rw [← hW2]
  have HR2 : Hid (Rows2 w W2 B1 B2) := Lib.hid (by
    rw [hW2, hB2, hB1]
    refine ⟨al_keep (al_at w1 _) _, al_eq _ _ _ (by rw [size_alloc]), ?_⟩
    exact HK1.out.trans (Below.alloc (Below.alloc (Below.refl _ _) (Nat.le_refl _) _) (by rw [size_alloc]; omega) _))
  clear hB1 hB2 hW2
  go_wp2_with fail
  go_loopw [3] (fun i wr => ∃ m : Nat, m ≤ 32 ∧ i = .int .i64 (8 * (m : Int)) ∧ Rows2 w wr B1 B2) (fun i _ => 256 - (intOf i).toNat)
  case atStart => exact ⟨0, Nat.zero_le _, rfl, HR2.out⟩
  case round =>
    rename World => wa
    obtain ⟨m, hm, rfl, hra⟩ := hrel
    have HRA := Lib.hid hra
    clear hra
    by_cases hlm : m < 32
    · obtain ⟨ho1, ho2, ho3, ho4, ho5⟩ := op_nums hlm
      have HWO := Lib.hid ho1
      have HLM := Lib.hid hlm
      have HO4 := Lib.hid ho4
      obtain ⟨o, ho⟩ : ∃ o : Int, o = 8 * (m : Int) := ⟨_, rfl⟩
      rw [← ho] at HWO ho2 ho3 HO4 ho5 ⊢
      have HO := Lib.hid ho
      clear ho1 hlm hm ho ho4
      go_wp2_with fail
      go_loopw [4] (fun i wr => ∃ j : Nat, j ≤ 25 ∧ i = .int .i64 (j : Int) ∧ Rows2 w wr B1 B2) (fun i _ => 25 - (intOf i).toNat)
      case atStart => exact ⟨0, Nat.zero_le _, rfl, HRA.out⟩
      case round =>
        rename World => wb
        obtain ⟨i, hi, rfl, hrb⟩ := hrel
        have HRB := Lib.hid hrb
        clear hrb
        by_cases hli : i < 25
        · obtain ⟨hi0, hi1, hi2⟩ := ix25 hli
          obtain ⟨x, hx, hxw⟩ := lsI_at hli
          have HX := Lib.hid hx
          have HXW := Lib.hid hxw
          have HLI := Lib.hid hli
          clear hx hxw hli hi
          go_wp2_with fail
          go_loopw [5] (fun i wr => ∃ j : Nat, j ≤ 25 ∧ i = .int .i64 (j : Int) ∧ Rows2 w wr B1 B2) (fun i _ => 25 - (intOf i).toNat)
          case atStart => exact ⟨0, Nat.zero_le _, rfl, HRB.out⟩
          case round =>
            rename World => wk
            obtain ⟨k, hk, rfl, hrk⟩ := hrel
            have HRK := Lib.hid hrk
            clear hrk
            by_cases hlk : k < 25
            · obtain ⟨hk0, hk1, hk2⟩ := ix25 hlk
              obtain ⟨y, hy, hyw⟩ := lsI_at hlk
              have HY := Lib.hid hy
              have HYW := Lib.hid hyw
              have HLK := Lib.hid hlk
              clear hy hyw hlk hk
              go_wp2_with fail
              go_loopw [6] (fun i wr => ∃ j : Nat, j ≤ 8 ∧ i = .int .i64 (j : Int) ∧ Rows2 w wr B1 B2) (fun i _ => 8 - (intOf i).toNat)
              case atStart => exact ⟨0, Nat.zero_le _, rfl, HRK.out⟩
              case round =>
                rename World => wn
                obtain ⟨n, hn, rfl, hrn⟩ := hrel
                have HRN := Lib.hid hrn
                clear hrn
                by_cases hln : n < 8
                · obtain ⟨hn0, hn1, hn2⟩ := ix8 hln
                  obtain ⟨f, hf, hfw⟩ := fsI_at hln
                  have HF := Lib.hid hf
                  have HFW := Lib.hid hfw
                  have HLN := Lib.hid hln
                  clear hf hfw hln hn
                  have HC : Hid (∀ (wx : World) (b : Bool), Rows2 w wx B1 B2 → Calls Try.prog 5 #[.int .u8 o, .int .i16 f, .bool b, .int .u64 x, .int .u64 y] wx fun e w' => e = .returned (.bool true) ∧ Rows2 w w' B1 B2) := Lib.hid fun wx b h => callA h b HWO.out HFW.out HXW.out HYW.out
                  have HS : Hid (∀ wx : World, Rows2 w wx B1 B2 → wx.cell? ⟨B1, i, none⟩ = some (.int .u64 x) ∧ wx.cell? ⟨B1, k, none⟩ = some (.int .u64 y) ∧ wx.cell? ⟨B2, n, none⟩ = some (.int .i16 f)) := Lib.hid fun wx h => ⟨h.l HX.out, h.l HY.out, h.f HF.out⟩
                  have hkc := HS.out wn HRN.out
                  obtain ⟨d1, d2, d3⟩ := hkc
                  go_upto_region 17 with fail
                  go_cut [72] from 33 to 72 (fun v wx => v = .bool false ∧ Rows2 w wx B1 B2)
                  case first =>
                    go_region_held3 (fun wx => wx.cell? ⟨B1, i, none⟩ = some (.int .u64 x) ∧ wx.cell? ⟨B1, k, none⟩ = some (.int .u64 y) ∧ wx.cell? ⟨B2, n, none⟩ = some (.int .i16 f)) (first | assumption | go_keep) (first | (go_at_call 5; (with_reducible refine (HC.out _ _ (by first | exact HRN.out | exact HRN.out.drew)).mono ?_); rintro e w5 ⟨rfl, h5⟩; have H5 := Lib.hid h5; clear h5; have hk5 := HS.out w5 H5.out) | (go_at_call 5; (with_reducible refine (HC.out _ _ (by first | exact H5.out | exact H5.out.drew)).mono ?_); rintro e w6 ⟨rfl, h6⟩; have H6 := Lib.hid h6; clear h6; have hk6 := HS.out w6 H6.out))
                    go_wp2_with fail
                    go_meet
                    exact ⟨rfl, by first | exact H6.out | exact H6.out.drew⟩
                  case rest =>
                    obtain ⟨rfl, hcut⟩ := hcut
                    have HR6 := Lib.hid hcut
                    clear hcut d1 d2 d3 HC HS
                    go_wp2_with fail
                    go_roundw
                    case rel => exact ⟨n + 1, HLN.out, by first | rfl | (rw [hn2]; rfl), HR6.out⟩
                    case measure => first | exact ix_meas HLN.out | (rw [hn2]; exact ix_meas HLN.out)
                · obtain rfl : n = 8 := eq_end hn hln
                  clear hn hln
                  obtain ⟨q, d, e1, e2, e3, e4, hdw⟩ := mod4 i
                  obtain ⟨p, v1, v2, f1, f2, f3, hv1, hv2, hw1, hw2⟩ := mod5 k
                  have HDW := Lib.hid hdw
                  have HW1 := Lib.hid hw1
                  have HW2 := Lib.hid hw2
                  clear hdw hw1 hw2
                  have HV1 := Lib.hid hv1
                  have HV2 := Lib.hid hv2
                  clear hv1 hv2
                  go_upto_region 19 with fail
                  go_cut [119] from 73 to 119 (fun v wx => v = .bool false ∧ Rows2 w wx B1 B2)
                  case first =>
                    refine ends19 _ HRN HWO ho3 hi0 hi1 hk0 hk1 HX HY HXW HYW e1 e2 e3 e4 HDW f1 f2 f3 HV1 HV2 HW1 HW2 ?_
                    intros
                    simp only [Exit.then]
                    go_step
                    go_meet
                    exact ⟨rfl, by assumption⟩
                  case rest =>
                    obtain ⟨rfl, hcut⟩ := hcut
                    have HR6 := Lib.hid hcut
                    clear hcut e1 e2 e3 e4 f1 f2 f3
                    go_wp2_with fail
                    go_roundw
                    case rel => exact ⟨k + 1, HLK.out, by first | rfl | (rw [hk2]; rfl), HR6.out⟩
                    case measure => first | exact ix_meas HLK.out | (rw [hk2]; exact ix_meas HLK.out)
            · obtain rfl : k = 25 := eq_end hk hlk
              clear hk hlk
              go_wp2_with fail
              go_roundw
              case rel => exact ⟨i + 1, HLI.out, by first | rfl | (rw [hi2]; rfl), HRK.out⟩
              case measure => first | exact ix_meas HLI.out | (rw [hi2]; exact ix_meas HLI.out)
        · obtain rfl : i = 25 := eq_end hi hli
          clear hi hli
          go_wp2_with fail
          go_roundw
          case rel => exact ⟨m + 1, HLM.out, by rw [HO4.out], HRB.out⟩
          case measure =>
            rw [HO4.out, HO.out]
            exact op_meas HLM.out
    · obtain rfl : m = 32 := eq_end hm hlm
      clear hm hlm
      go_wp2_with fail
      go_ret
      exact ⟨rfl, HRA.out.ok⟩
theorem ends_walk (w : World) : Calls Try.prog 3 #[] w fun e w' => e = .returned (.bool true) ∧ Below w.heap.size w w' := ends w
end Go.Proofs.Ytlhegejfaihgmaa.M
