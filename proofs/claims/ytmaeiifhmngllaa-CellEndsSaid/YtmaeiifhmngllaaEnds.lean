/-
  CellEnds: the walk (printed by mkcends.py).
-/
import Derived.Test.YtmaeiifhmngllaaEndsA
import Derived.Deep.RegionHeld3
import Derived.Deep.DrawnRows
namespace Go.Proofs.Ytmaeiifhmngllaa.M
open Go.RowKit
set_option linter.unusedVariables false
set_option linter.unusedSectionVars false
set_option linter.unusedSimpArgs false
attribute [local go_sem ↓] Go.wp_at_zero Go.wp_at_succ
theorem size_num {k n : Nat} (hk : k < 9) (hn : n < 9) : wrap64 ((k : Int) * 64) = (k : Int) * 64 ∧ IntKind.i64.wrap ((k : Int) * 64) = (k : Int) * 64 ∧ (n : Int).tmod 2 = (n : Int) % 2 ∧ IntKind.i64.wrap ((k : Int) * 64 + (n : Int) % 2) = ((k * 64 + n % 2 : Nat) : Int) ∧ wrap64 ((k : Int) * 64 + (n : Int) % 2) = ((k * 64 + n % 2 : Nat) : Int) := by
  refine ⟨?_, ?_, Int.tmod_eq_emod_of_nonneg (by omega), ?_, ?_⟩
  · rw [wrap64]; omega
  · rw [IntKind.wrap_i64]; omega
  · rw [IntKind.wrap_i64]; omega
  · rw [wrap64]; omega
theorem m_small {k n m : Nat} (h : k < 9) (hm : m = k * 64 + n % 2) : m ≤ 1000 := by omega
set_option maxRecDepth 100000 in
set_option maxHeartbeats 16000000 in
theorem cellEnds_walk (w : World) :
    Calls Try.prog 5 #[] w fun e w' => e = .returned (.bool true) ∧ Below w.heap.size w w' := by
  suffices h : Calls Try.prog 5 #[] w fun e w' => e = .returned (.bool true) ∧ But [] w w' from
    h.mono fun _ _ ⟨he, hb⟩ => ⟨he, hb.below (Nat.le_refl _) (by simp)⟩
  go_enter Try.func5, Try.ntmps5
  go_wp2_with fail
  refine (awake _).mono ?_
  rintro e w1 ⟨rfl, hb1⟩
  have HB1 := Lib.hid hb1
  clear hb1
  go_wp2_with fail
  obtain ⟨W2, hW2⟩ : ∃ W2, W2 = ((w1.alloc (.cells #[.int .i64 (-9223372036854775808), .int .i64 (-1), .int .i64 0, .int .i64 1, .int .i64 4, .int .i64 7, .int .i64 8, .int .i64 503, .int .i64 504, .int .i64 505, .int .i64 508, .int .i64 511, .int .i64 512, .int .i64 513, .int .i64 9223372036854775807] 2)).alloc (.cells #[.int .i64 (-9223372036854775808), .int .i64 (-1), .int .i64 0, .int .i64 1, .int .i64 2, .int .i64 3, .int .i64 4, .int .i64 8, .int .i64 9, .int .i64 511, .int .i64 512, .int .i64 513, .int .i64 9223372036854775807] 3)).alloc (.cells #[.int .u8 0, .int .u64 0, .int .i64 0, .int .i64 0, .int .u8 1, .int .u64 18446744073709551615, .int .i64 0, .int .i64 0, .int .u8 1, .int .u64 0, .int .i64 0, .int .i64 1, .int .u8 2, .int .u64 0, .int .i64 1, .int .i64 (-5), .int .u8 2, .int .u64 1, .int .i64 0, .int .i64 0, .int .u8 3, .int .u64 0, .int .i64 2, .int .i64 0, .int .u8 3, .int .u64 0, .int .i64 0, .int .i64 1, .int .u8 4, .int .u64 0, .int .i64 0, .int .i64 0, .int .u8 0, .int .u64 1, .int .i64 0, .int .i64 0] 33) := ⟨_, rfl⟩
  rw [← hW2]
  have HE : Hid (EndsI w1.heap.size (w1.heap.size + 1) (w1.heap.size + 2) W2) := Lib.hid (by
    rw [hW2]
    exact ⟨al_keep (al_keep (al_at _ _) _) _, al_keep (al_eq _ _ _ (size_alloc _ _)) _, al_eq _ _ _ (by rw [size_alloc, size_alloc])⟩)
  have HB2 : Hid (But [] w W2) := Lib.hid (by rw [hW2]; exact ((HB1.out.alloc _).alloc _).alloc _)
  clear hW2 HB1
  obtain ⟨BO, hBO⟩ : ∃ B, B = w1.heap.size := ⟨_, rfl⟩
  simp only [← hBO] at HE ⊢
  clear hBO
  go_loopw [4] (fun i wr => ∃ j : Nat, j ≤ 15 ∧ i = .int .i64 j ∧ But [] W2 wr) (fun i _ => 15 - (intOf i).toNat)
  case atStart => exact ⟨0, by omega, rfl, But.refl _ _⟩
  case round =>
    obtain ⟨i, hi, rfl, hb⟩ := hrel
    have HBI := Lib.hid hb
    clear hb
    have hi0 : (0 : Int) ≤ i := by omega
    by_cases hlt : i < 15
    · have hi1 : (i : Int) < 15 := by omega
      have hiw : wrap64 ((i : Int) + 1) = (i : Int) + 1 := by rw [wrap64]; omega
      obtain ⟨x, hx⟩ : ∃ x, offsL[i]? = some x := ⟨_, List.getElem?_eq_getElem hlt⟩
      have HXW := Lib.hid (offs_wf x (List.mem_of_getElem? hx))
      have HX := Lib.hid hx
      clear hx hlt
      go_wp2_with fail
      go_loopw [5] (fun u wr => ∃ j : Nat, j ≤ 13 ∧ u = .int .i64 j ∧ But [] W2 wr) (fun u _ => 13 - (intOf u).toNat)
      case atStart => exact ⟨0, by omega, rfl, HBI.out⟩
      case round =>
        obtain ⟨k, hk, rfl, hb⟩ := hrel
        have HBK := Lib.hid hb
        clear hb
        have hk0 : (0 : Int) ≤ k := by omega
        by_cases hlt : k < 13
        · have hk1 : (k : Int) < 13 := by omega
          have hkw : wrap64 ((k : Int) + 1) = (k : Int) + 1 := by rw [wrap64]; omega
          obtain ⟨y, hy⟩ : ∃ y, sizesL[k]? = some y := ⟨_, List.getElem?_eq_getElem hlt⟩
          have HYW := Lib.hid (sizes_wf y (List.mem_of_getElem? hy))
          have HY := Lib.hid hy
          clear hy hlt
          go_wp2_with fail
          go_loopw [6] (fun u wr => ∃ j : Nat, j ≤ 9 ∧ u = .int .i64 j ∧ But [] W2 wr) (fun u _ => 9 - (intOf u).toNat)
          case atStart => exact ⟨0, by omega, rfl, HBK.out⟩
          case round =>
            obtain ⟨n, hn, rfl, hb⟩ := hrel
            have HBN := Lib.hid hb
            clear hb
            have hn0 : (0 : Int) ≤ n := by omega
            by_cases hlt : n < 9
            · have hn1 : (n : Int) < 9 := by omega
              have hnw : wrap64 ((n : Int) + 1) = (n : Int) + 1 := by rw [wrap64]; omega
              obtain ⟨c, hc⟩ : ∃ c, cellsL[n]? = some c := ⟨_, List.getElem?_eq_getElem hlt⟩
              have HCW := Lib.hid (cells_wf c (List.mem_of_getElem? hc))
              have HEN := Lib.hid (HE.out.but HBN.out)
              have cx := HEN.out.off HX.out
              have cy := HEN.out.size HY.out
              obtain ⟨c0_, c1_, c2_, c3_⟩ := HEN.out.cell hc
              obtain ⟨ck, cw, cr, co⟩ := c
              simp only at c0_ c1_ c2_ c3_
              have HLT := Lib.hid hlt
              clear hc hlt
              by_cases hk9 : k < 9
              · have hk9' : (k : Int) < 9 := by omega
                have HK9 := Lib.hid hk9
                clear hk9
                go_upto_region 15 with fail
                refine wp_region_tail9 31 (by kernel_rfl) (by kernel_rfl) ?_
                simp only [List.take_succ_cons, List.take_zero, List.drop_succ_cons, List.drop_zero]
                repeat still_step
                refine wpStill_nil ?_
                go_upto_region 17 with fail
                obtain ⟨W5, hW5⟩ : ∃ W5, W5 = (wr.alloc (.cells #[.int .i64 0, .int .i64 x, .int .i64 y, .int .u8 ck, .int .u64 cw, .int .i64 cr, .int .i64 co, .slice none 0 0, .int .i64 4, .int .i64 x, .int .i64 y, .int .u8 0, .int .u64 0, .int .i64 0, .int .i64 0, .slice none 0 0, .int .i64 6, .int .i64 x, .int .i64 y, .int .u8 0, .int .u64 0, .int .i64 0, .int .i64 0, .slice none 0 0] 39)).drew := ⟨_, rfl⟩
                rw [← hW5]
                have HC5 : Hid (W5.heap[wr.heap.size]? = some (.cells ((deedC (d1 x y ⟨ck, cw, cr, co⟩)).toList ++ (deedC (d2 x y)).toList ++ (deedC (d3 x y)).toList).toArray 39)) := Lib.hid (by rw [hW5]; exact al_at _ _)
                have HB5 : Hid (But [] wr W5) := Lib.hid (by rw [hW5]; exact ((But.refl [] wr).alloc _).drew)
                have cx5 := (HEN.out.but HB5.out).off HX.out
                clear hW5 cx cy c0_ c1_ c2_ c3_
                obtain ⟨z1, z2, z3, z4, z5⟩ := size_num HK9.out HLT.out
                obtain ⟨m, hm⟩ : ∃ m, m = k * 64 + n % 2 := ⟨_, rfl⟩
                rw [← hm] at z4 z5
                have hm9 : m ≤ 1000 := m_small HK9.out hm
                have HM := Lib.hid hm9
                obtain ⟨i0, ii, iz0, iz1, iz2⟩ := info_parts (show (Try.prog.info? 5).map (fun i => (i.zero, i.size, i.bytes)) = some (some (.int .u8 0), 1, 1) by kernel_rfl)
                obtain ⟨j0, ki, kz0, kz1, kz2⟩ := info_parts (show (Try.prog.info? 39).map (fun i => (i.zero, i.size, i.bytes)) = some (some (.agg #[.int .i64 0, .int .i64 0, .int .i64 0, .int .u8 0, .int .u64 0, .int .i64 0, .int .i64 0, .slice none 0 0]), 8, 80) by kernel_rfl)
                have HKI := Lib.hid ki
                have HKZ := Lib.hid kz0
                have hmk : ∀ w, (Instr.makeSlice 37 (.int .i64 (m : Int)) (.int .i64 (m : Int))).run Try.prog w = .ok (.slice (some ⟨w.heap.size, 0, none⟩) m m) (w.alloc (.cells (madeCells #[.int .u8 0] m) 5)) := fun w => by
                  have h := run_make (P := Try.prog) w 37 5 i0 (.int .u8 0) Try.underlying37 ii iz0 .i64 .i64 (m : Int) (m : Int) (by omega) (by omega) (by rw [iz2]; omega) (by omega)
                  rw [h, iz1]
                  simp only [Int.toNat_natCast, Nat.mul_one]
                  rfl
                clear hm hm9 ii iz0 iz1 iz2 ki kz0
                obtain ⟨L, hL⟩ : ∃ L, L = (deedC (d1 x y ⟨ck, cw, cr, co⟩)).toList ++ (deedC (d2 x y)).toList ++ (deedC (d3 x y)).toList := ⟨_, rfl⟩
                obtain ⟨M, hM⟩ : ∃ M, M = (deedC (d4 x W5.heap.size m)).toList := ⟨_, rfl⟩
                have HLL : Hid (L.length = 24) := Lib.hid (by rw [hL]; rfl)
                have HML : Hid (M.length = 8) := Lib.hid (by rw [hM]; rfl)
                have HM1 : Hid (∀ u ∈ M, u.oneCell' = true) := Lib.hid (by
                  rw [hM]
                  intro u hu
                  simp only [deedC, d4, c0, List.mem_cons, List.not_mem_nil, or_false] at hu
                  rcases hu with rfl | rfl | rfl | rfl | rfl | rfl | rfl | rfl <;> rfl)
                have HK : Hid (∀ W, (W = ((W5.alloc (.cells (madeCells #[.int .u8 0] m) 5)).alloc (.cells #[.int .i64 7, .int .i64 x, .int .i64 0, .int .u8 0, .int .u64 0, .int .i64 0, .int .i64 0, .slice (some ⟨W5.heap.size, 0, none⟩) m m] 39)).drew ∨ W = (W5.drew.alloc (.cells (madeCells #[.int .u8 0] m) 5)).alloc (.cells #[.int .i64 7, .int .i64 x, .int .i64 0, .int .u8 0, .int .u64 0, .int .i64 0, .int .i64 0, .slice (some ⟨W5.heap.size, 0, none⟩) m m] 39)) → W.heap[wr.heap.size]? = some (.cells L.toArray 39) ∧ W.heap[W5.heap.size + 1]? = some (.cells M.toArray 39) ∧ ∀ (w' : World) (G cap : Nat) (cur : Array Value), w'.heap[G]? = some (.cells cur 39) → (∀ (j : Nat) (u : Value), (L ++ M)[j]? = some u → cur[j]? = some u) → But [] W w' → SeesDeeds w' (.slice (some ⟨G, 0, none⟩) 4 cap) [d1 x y ⟨ck, cw, cr, co⟩, d2 x y, d3 x y, d4 x W5.heap.size m] ∧ But [] W2 w') := Lib.hid (by
                  intro W hW
                  have hb : But [] W5 W := by
                    rcases hW with rfl | rfl
                    · exact (((But.refl [] W5).alloc _).alloc _).drew
                    · exact (((But.refl [] W5).drew).alloc _).alloc _
                  have h8 : W.heap[W5.heap.size + 1]? = some (.cells M.toArray 39) := by
                    rw [hM]
                    rcases hW with rfl | rfl
                    · exact al_eq (W5.alloc _) _ _ (size_alloc _ _)
                    · exact al_eq (W5.drew.alloc _) _ _ (size_alloc W5.drew _)
                  have hmd : W.heap[W5.heap.size]? = some (.cells (madeCells #[.int .u8 0] m) 5) := by
                    rcases hW with rfl | rfl
                    · exact al_keep (al_at W5 _) _
                    · exact al_keep (al_at W5.drew _) _
                  refine ⟨by rw [hL]; exact hb.heap HC5.out (by simp), h8, fun w' G cap cur hcur hj hbw => ⟨?_, (HBN.out.trans HB5.out (by simp)).trans (hb.trans hbw (by simp)) (by simp)⟩⟩
                  refine sees_deeds (l := [d1 x y ⟨ck, cw, cr, co⟩, d2 x y, d3 x y, d4 x W5.heap.size m]) hcur (fun i d hd q u hu => hj _ _ (by rw [hL, hM]; exact four_at i d hd q u hu)) ?_
                  intro d hd
                  simp only [List.mem_cons, List.not_mem_nil, or_false] at hd
                  rcases hd with rfl | rfl | rfl | rfl
                  · exact good_nil zero_wf HXW.out HYW.out HCW.out
                  · exact good_nil (by decide +kernel) HXW.out HYW.out c0_wf
                  · exact good_nil (by decide +kernel) HXW.out HYW.out c0_wf
                  · exact good4 HXW.out HM.out (hbw.heap hmd (by simp)))
                have HSO : Hid (∀ wx, But [] W2 wx → wx.cell? ⟨BO, i, none⟩ = some (.int .i64 x)) := Lib.hid fun wx hb => (HE.out.but hb).off HX.out
                clear hL hM
                go_region_held3 (fun w' => w'.cell? ⟨BO, i, none⟩ = some (.int .i64 x)) (first | assumption | exact HS6 | go_keep) ((refine step_append_deed (by rfl) _ _ 22 39 (by rfl) j0 (.agg #[.int .i64 0, .int .i64 0, .int .i64 0, .int .u8 0, .int .u64 0, .int .i64 0, .int .i64 0, .slice none 0 0]) Try.underlying22 HKI.out HKZ.out kz1 (by rw [kz2]; decide) wr.heap.size (W5.heap.size + 1) L M HLL.out HML.out HM1.out (by rfl) (by rfl) (HK.out _ (by first | exact .inl rfl | exact .inr rfl)).1 (HK.out _ (by first | exact .inl rfl | exact .inr rfl)).2.1 ?_; intro w6 G cap cur hc6 hcu hb6; obtain ⟨hsd, hbd⟩ := (HK.out _ (by first | exact .inl rfl | exact .inr rfl)).2.2 w6 G cap cur hc6 hcu hb6; have HSD := Lib.hid hsd; have HBD := Lib.hid hbd; clear hc6 hcu hb6 hsd hbd; have HS6 := HSO.out w6 HBD.out))
                go_wp2_with fail
                refine (cellDoes_go _ _ w6 HSD.out).mono ?_
                rintro e w7 ⟨rfl, hb7⟩
                have HB7 := Lib.hid (HBD.out.trans hb7 (by simp))
                clear hb7
                go_wp2_with fail
                go_roundw
                case rel => exact ⟨n + 1, by omega, by go_num, HB7.out⟩
                case measure => simp [intOf]; omega
              · have hd9 : ¬ ((k : Int) < 9) := by omega
                clear hk9
                go_upto_region 15 with fail
                refine wp_region_tail9 31 (by kernel_rfl) (by kernel_rfl) ?_
                simp only [List.take_succ_cons, List.take_zero, List.drop_succ_cons, List.drop_zero]
                repeat still_step
                refine wpStill_nil ?_
                go_wp2_with fail
                obtain ⟨W5, hW5⟩ : ∃ W5, W5 = (wr.alloc (.cells #[.int .i64 0, .int .i64 x, .int .i64 y, .int .u8 ck, .int .u64 cw, .int .i64 cr, .int .i64 co, .slice none 0 0, .int .i64 4, .int .i64 x, .int .i64 y, .int .u8 0, .int .u64 0, .int .i64 0, .int .i64 0, .slice none 0 0, .int .i64 6, .int .i64 x, .int .i64 y, .int .u8 0, .int .u64 0, .int .i64 0, .int .i64 0, .slice none 0 0] 39)).drew := ⟨_, rfl⟩
                rw [← hW5]
                have HC5 : Hid (W5.heap[wr.heap.size]? = some (.cells ((deedC (d1 x y ⟨ck, cw, cr, co⟩)).toList ++ (deedC (d2 x y)).toList ++ (deedC (d3 x y)).toList).toArray 39)) := Lib.hid (by rw [hW5]; exact al_at _ _)
                have HB5 : Hid (But [] wr W5) := Lib.hid (by rw [hW5]; exact ((But.refl [] wr).alloc _).drew)
                clear hW5 cx cy c0_ c1_ c2_ c3_
                refine (cellDoes_go _ [d1 x y ⟨ck, cw, cr, co⟩, d2 x y, d3 x y] W5 (sees_deeds HC5.out (fun i d hd q u hu => by rw [List.getElem?_toArray]; exact three_at i d hd q u hu) (by
                  intro d hd
                  simp only [List.mem_cons, List.not_mem_nil, or_false] at hd
                  rcases hd with rfl | rfl | rfl
                  · exact good_nil zero_wf HXW.out HYW.out HCW.out
                  · exact good_nil (by decide +kernel) HXW.out HYW.out c0_wf
                  · exact good_nil (by decide +kernel) HXW.out HYW.out c0_wf))).mono ?_
                rintro e w6 ⟨rfl, hb6⟩
                have HB6 := Lib.hid ((HBN.out.trans HB5.out (by simp)).trans hb6 (by simp))
                clear hb6
                go_wp2_with fail
                go_roundw
                case rel => exact ⟨n + 1, by omega, by go_num, HB6.out⟩
                case measure => simp [intOf]; omega
            · obtain rfl : n = 9 := by omega
              go_wp2_with fail
              go_roundw
              case rel => exact ⟨k + 1, by omega, by go_num, HBN.out⟩
              case measure => simp [intOf]; omega
        · obtain rfl : k = 13 := by omega
          go_wp2_with fail
          go_roundw
          case rel => exact ⟨i + 1, by omega, by go_num, HBK.out⟩
          case measure => simp [intOf]; omega
    · obtain rfl : i = 15 := by omega
      have HBE := Lib.hid (HB2.out.trans HBI.out (by simp))
      go_wp2_with fail
      go_ret
      exact ⟨rfl, HBE.out⟩
end Go.Proofs.Ytmaeiifhmngllaa.M
