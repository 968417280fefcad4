/-
  cell: Store's walk, a word (printed by mkstore.py).
-/
import Derived.Test.YtmaeiifhmngllaaStoreA
namespace Go.Proofs.Ytmaeiifhmngllaa.M
open Go.RowKit
set_option linter.unusedVariables false
set_option linter.unusedSectionVars false
set_option linter.unusedSimpArgs false
theorem made_at8 {n q : Nat} (h : q < n) : (madeCells #[.int .u8 0] n)[q]? = some (.int .u8 0) := by
  have hs : (madeCells #[Value.int .u8 0] n).size = n := by simp [size_madeCells]
  simp [madeCells, h, Nat.mod_one]
set_option maxRecDepth 100000 in
set_option maxHeartbeats 4000000 in
theorem store_word0 (P o n : Nat) (S : Stk) (wd rg of_ : Int) (w : World) (hn : sizeB n = true) (hn8 : n ≤ 8) (hon : o + n ≤ 512) (hwf : (Lit.int .u8 1).wf = true) (hR : rightB ⟨1, wd, rg, of_⟩ = true) (hB : Blk w P 57 833 (S.val true)) (g1 : ¬ ((n : Int) = 8))  :
    Calls Try.prog 22 #[.pointer (some ⟨P, 0, none⟩), .int .i64 (o : Int), .int .i64 (n : Int), Value.agg #[.int .u8 1, .int .u64 wd, .int .i64 rg, .int .i64 of_]] w fun e w' => e = .returned (.int .i64 0) ∧ Blk w' P 57 833 ((wrL S o (wordBs wd n) (List.range (cntP o n))).val true) ∧ But [P] w w' := by
  have hz : checkE o n (rightB ⟨1, wd, rg, of_⟩) = 0 := by rw [hR]; unfold checkE; rw [if_pos rfl, if_pos (by omega)]
  have HC : Hid (∀ w1, But [] w w1 → Calls Try.prog 25 #[.pointer (some ⟨P, 0, none⟩), .int .i64 (o : Int), .int .i64 (n : Int), .bool (rightB ⟨1, wd, rg, of_⟩)] w1 fun e w' => e = .returned (.int .i64 0) ∧ w1 = w') := Lib.hid fun w1 hb => (check_c P S o n _ w1 (hB.but hb (by simp)) (fun _ => by omega)).mono fun e w' ⟨h1, h2⟩ => ⟨by rw [h1, hz], h2⟩
  have ho512 : o < 512 := by
    unfold sizeB at hn
    have h := of_decide_eq_true hn
    omega
  have HO := Lib.hid ho512
  have HN := Lib.hid hn
  have HWF := Lib.hid hwf
  have HB := Lib.hid hB
  have HON := Lib.hid hon
  clear hn hwf hB hon hR hz ho512
  go_enter Try.func22, Try.ntmps22
  go_wp2_with fail
  refine (sized_c _ _).mono ?_
  rintro e w1 ⟨rfl, hb1⟩
  rw [HN.out]
  have HX1 := Lib.hid (hb1.heap (al_at _ _) (by simp))
  have HBT1 := Lib.hid (((But.refl [] w).alloc (.cells #[.int .u8 1, .int .u64 wd, .int .i64 rg, .int .i64 of_] 33)).trans hb1 (by simp))
  clear hb1
  have d0 := cl_of HX1.out 0
  have d1 := cl_of HX1.out 1
  have d2 := cl_of HX1.out 2
  have d3 := cl_of HX1.out 3
  simp only [List.getElem?_toArray, List.getElem?_cons_zero, List.getElem?_cons_succ] at d0 d1 d2 d3
  go_wp2_with fail
  refine (right_c 1 wd rg of_ w1 HWF.out).mono ?_
  rintro e w2 ⟨rfl, hb2⟩
  have HX2 := Lib.hid (hb2.heap HX1.out (by simp))
  have HBT2 := Lib.hid (HBT1.out.trans hb2 (by simp))
  clear d0 d1 d2 d3 hb2 HX1 HBT1
  obtain ⟨rb, hrb⟩ : ∃ b, b = rightB ⟨1, wd, rg, of_⟩ := ⟨_, rfl⟩
  rw [← hrb] at HC ⊢
  clear hrb
  go_wp2_with fail
  refine (HC.out w2 HBT2.out).mono ?_
  rintro e w3 ⟨rfl, rfl⟩
  have d0 := cl_of HX2.out 0
  have d1 := cl_of HX2.out 1
  have d2 := cl_of HX2.out 2
  have d3 := cl_of HX2.out 3
  simp only [List.getElem?_toArray, List.getElem?_cons_zero, List.getElem?_cons_succ] at d0 d1 d2 d3
  have HX9 := Lib.hid HX2.out
  obtain ⟨i0, hi, hz0, hz1, hz2⟩ := info_parts (show (Try.prog.info? 5).map (fun i => (i.zero, i.size, i.bytes)) = some (some (.int .u8 0), 1, 1) by kernel_rfl)
  have hmk : (Instr.makeSlice 37 (.int .i64 (n : Int)) (.int .i64 (n : Int))).run Try.prog w2 = .ok (.slice (some ⟨w2.heap.size, 0, none⟩) n n) (w2.alloc (.cells (madeCells #[.int .u8 0] n) 5)) := by
    have h := run_make (P := Try.prog) w2 37 5 i0 (.int .u8 0) Try.underlying37 hi hz0 .i64 .i64 (n : Int) (n : Int) (by omega) (by omega) (by rw [hz2]; omega) (by omega)
    rw [h, hz1]
    simp only [Int.toNat_natCast, Nat.mul_one]
    rfl
  clear hi hz0 hz1 hz2
  have HZS : Hid (w.heap.size < w2.heap.size) := Lib.hid (by have h := HBT2.out.size; have h2 := lt_of HX2.out; omega)
  go_wp2_with fail
  go_loopw [53] (fun i wr => ∃ j : Nat, j ≤ n ∧ i = .int .i64 j ∧ Blk wr w2.heap.size 5 n (fun q => if q < j then .int .u8 (byteOf wd q) else .int .u8 0) ∧ But [] w2 wr) (fun i _ => n - (intOf i).toNat)
  case atStart =>
    refine ⟨0, by omega, rfl, ⟨_, al_at _ _, by simp [size_madeCells], fun q hq => ?_⟩, (But.refl _ _).alloc _⟩
    rw [made_at8 hq]
    rfl
  case round =>
    obtain ⟨j, hj, rfl, hblk, hbw⟩ := hrel
    have e1 := cl_of (hbw.heap HX2.out (by simp)) 1
    have e0 := cl_of (hbw.heap HX2.out (by simp)) 0
    simp only [List.getElem?_toArray, List.getElem?_cons_zero, List.getElem?_cons_succ] at e1 e0
    have HBLK := Lib.hid hblk
    have HBW := Lib.hid hbw
    have hj0 : (0 : Int) ≤ j := by omega
    by_cases hlt : j < n
    · have hjn : (j : Int) < n := by omega
      have hc := hblk.cell hlt
      have hfz := hblk.frozen j
      have hj8 : j < 8 := by omega
      have hsh : (0 : Int) ≤ 8 * (j : Int) := by omega
      have hw8 : wrap64 (8 * (j : Int)) = 8 * (j : Int) := by rw [wrap64]; omega
      have hw1 : wrap64 ((j : Int) + 1) = (j : Int) + 1 := by rw [wrap64]; omega
      have HBYTE : Hid (wd / 2 ^ (8 * (j : Int)).toNat % 256 = byteOf wd j) := Lib.hid (by unfold byteOf; rw [show (8 * (j : Int)).toNat = 8 * j by omega])
      clear hbw hblk hmk HC
      go_wp2_with fail
      go_roundw
      case rel =>
        refine ⟨j + 1, by omega, by go_num, ?_, HBW.out.setCell (.inr (Nat.le_refl _)) _⟩
        refine (HBLK.out.set j _).congr (fun q hq => ?_)
        unfold upd
        by_cases hqj : q = j
        · subst hqj
          rw [if_pos rfl, if_pos (by omega)]
          rfl
        · rw [if_neg hqj]
          show (if q < j then Value.int .u8 (byteOf wd q) else Value.int .u8 0) = _
          by_cases hql : q < j
          · rw [if_pos hql, if_pos (by omega)]
          · rw [if_neg hql, if_neg (by omega)]
      case measure => simp [intOf]; omega
    · obtain rfl : j = n := by omega
      have hsee : Sees wr (.slice (some ⟨w2.heap.size, 0, none⟩) (wordBs wd j).length j) (u8s (wordBs wd j)) := by
        refine .inr ⟨⟨w2.heap.size, 0, none⟩, j, by rw [u8s_len], by rw [u8s_len, wordBs_len]; exact Nat.le_refl _, fun q v hq => ?_⟩
        have hql := (List.getElem?_eq_some_iff.1 hq).1
        rw [u8s_len, wordBs_len] at hql
        rw [add_at, Nat.zero_add, hblk.cell hql, if_pos hql]
        unfold u8s wordBs at hq
        rw [List.getElem?_map, List.getElem?_map, List.getElem?_range hql] at hq
        exact hq
      have hPlt := HB.out.lt
      have HWR := Lib.hid (write_c P o S true (some ⟨w2.heap.size, 0, none⟩) j (wordBs wd j) wr (by rw [wordBs_len]; exact HON.out) ((HB.out.but HBT2.out (by simp)).but hbw (by simp)) hsee (fun ad had _ => by cases had; have h := HBT2.out.size; show w2.heap.size ≠ P; omega) (by rw [wordBs_len]; exact Nat.le_refl _))
      rw [wordBs_len] at HWR
      clear hbw hblk hmk HC hsee hPlt hlt
      go_wp2_with fail
      refine HWR.out.mono ?_
      rintro e w9 ⟨rfl, hb9, hbt9⟩
      have HB9 := Lib.hid hb9
      have HBT9 := Lib.hid hbt9
      clear hb9 hbt9
      go_wp2_with fail
      go_ret
      exact ⟨rfl, HB9.out, (HBT2.out.trans HBW.out (by simp) |>.mono (by simp)).trans HBT9.out (fun y hy => .inl hy)⟩
set_option maxRecDepth 100000 in
set_option maxHeartbeats 4000000 in
theorem store_word1 (P o n : Nat) (S : Stk) (wd rg of_ : Int) (w : World) (hn : sizeB n = true) (hn8 : n ≤ 8) (hon : o + n ≤ 512) (hwf : (Lit.int .u8 1).wf = true) (hR : rightB ⟨1, wd, rg, of_⟩ = true) (hB : Blk w P 57 833 (S.val true)) (g1 : ((n : Int) == 8) = true) (g2 : ((o : Int) % 8 == 0) = false)  :
    Calls Try.prog 22 #[.pointer (some ⟨P, 0, none⟩), .int .i64 (o : Int), .int .i64 (n : Int), Value.agg #[.int .u8 1, .int .u64 wd, .int .i64 rg, .int .i64 of_]] w fun e w' => e = .returned (.int .i64 0) ∧ Blk w' P 57 833 ((wrL S o (wordBs wd n) (List.range (cntP o n))).val true) ∧ But [P] w w' := by
  have hz : checkE o n (rightB ⟨1, wd, rg, of_⟩) = 0 := by rw [hR]; unfold checkE; rw [if_pos rfl, if_pos (by omega)]
  have HC : Hid (∀ w1, But [] w w1 → Calls Try.prog 25 #[.pointer (some ⟨P, 0, none⟩), .int .i64 (o : Int), .int .i64 (n : Int), .bool (rightB ⟨1, wd, rg, of_⟩)] w1 fun e w' => e = .returned (.int .i64 0) ∧ w1 = w') := Lib.hid fun w1 hb => (check_c P S o n _ w1 (hB.but hb (by simp)) (fun _ => by omega)).mono fun e w' ⟨h1, h2⟩ => ⟨by rw [h1, hz], h2⟩
  have ho512 : o < 512 := by
    unfold sizeB at hn
    have h := of_decide_eq_true hn
    omega
  have HO := Lib.hid ho512
  have HN := Lib.hid hn
  have HWF := Lib.hid hwf
  have HB := Lib.hid hB
  have HON := Lib.hid hon
  clear hn hwf hB hon hR hz ho512
  go_enter Try.func22, Try.ntmps22
  go_wp2_with fail
  refine (sized_c _ _).mono ?_
  rintro e w1 ⟨rfl, hb1⟩
  rw [HN.out]
  have HX1 := Lib.hid (hb1.heap (al_at _ _) (by simp))
  have HBT1 := Lib.hid (((But.refl [] w).alloc (.cells #[.int .u8 1, .int .u64 wd, .int .i64 rg, .int .i64 of_] 33)).trans hb1 (by simp))
  clear hb1
  have d0 := cl_of HX1.out 0
  have d1 := cl_of HX1.out 1
  have d2 := cl_of HX1.out 2
  have d3 := cl_of HX1.out 3
  simp only [List.getElem?_toArray, List.getElem?_cons_zero, List.getElem?_cons_succ] at d0 d1 d2 d3
  go_wp2_with fail
  refine (right_c 1 wd rg of_ w1 HWF.out).mono ?_
  rintro e w2 ⟨rfl, hb2⟩
  have HX2 := Lib.hid (hb2.heap HX1.out (by simp))
  have HBT2 := Lib.hid (HBT1.out.trans hb2 (by simp))
  clear d0 d1 d2 d3 hb2 HX1 HBT1
  obtain ⟨rb, hrb⟩ : ∃ b, b = rightB ⟨1, wd, rg, of_⟩ := ⟨_, rfl⟩
  rw [← hrb] at HC ⊢
  clear hrb
  go_wp2_with fail
  refine (HC.out w2 HBT2.out).mono ?_
  rintro e w3 ⟨rfl, rfl⟩
  have d0 := cl_of HX2.out 0
  have d1 := cl_of HX2.out 1
  have d2 := cl_of HX2.out 2
  have d3 := cl_of HX2.out 3
  simp only [List.getElem?_toArray, List.getElem?_cons_zero, List.getElem?_cons_succ] at d0 d1 d2 d3
  have HX9 := Lib.hid HX2.out
  obtain ⟨i0, hi, hz0, hz1, hz2⟩ := info_parts (show (Try.prog.info? 5).map (fun i => (i.zero, i.size, i.bytes)) = some (some (.int .u8 0), 1, 1) by kernel_rfl)
  have hmk : (Instr.makeSlice 37 (.int .i64 (n : Int)) (.int .i64 (n : Int))).run Try.prog w2 = .ok (.slice (some ⟨w2.heap.size, 0, none⟩) n n) (w2.alloc (.cells (madeCells #[.int .u8 0] n) 5)) := by
    have h := run_make (P := Try.prog) w2 37 5 i0 (.int .u8 0) Try.underlying37 hi hz0 .i64 .i64 (n : Int) (n : Int) (by omega) (by omega) (by rw [hz2]; omega) (by omega)
    rw [h, hz1]
    simp only [Int.toNat_natCast, Nat.mul_one]
    rfl
  clear hi hz0 hz1 hz2
  have HZS : Hid (w.heap.size < w2.heap.size) := Lib.hid (by have h := HBT2.out.size; have h2 := lt_of HX2.out; omega)
  go_wp2_with fail
  go_loopw [53] (fun i wr => ∃ j : Nat, j ≤ n ∧ i = .int .i64 j ∧ Blk wr w2.heap.size 5 n (fun q => if q < j then .int .u8 (byteOf wd q) else .int .u8 0) ∧ But [] w2 wr) (fun i _ => n - (intOf i).toNat)
  case atStart =>
    refine ⟨0, by omega, rfl, ⟨_, al_at _ _, by simp [size_madeCells], fun q hq => ?_⟩, (But.refl _ _).alloc _⟩
    rw [made_at8 hq]
    rfl
  case round =>
    obtain ⟨j, hj, rfl, hblk, hbw⟩ := hrel
    have e1 := cl_of (hbw.heap HX2.out (by simp)) 1
    have e0 := cl_of (hbw.heap HX2.out (by simp)) 0
    simp only [List.getElem?_toArray, List.getElem?_cons_zero, List.getElem?_cons_succ] at e1 e0
    have HBLK := Lib.hid hblk
    have HBW := Lib.hid hbw
    have hj0 : (0 : Int) ≤ j := by omega
    by_cases hlt : j < n
    · have hjn : (j : Int) < n := by omega
      have hc := hblk.cell hlt
      have hfz := hblk.frozen j
      have hj8 : j < 8 := by omega
      have hsh : (0 : Int) ≤ 8 * (j : Int) := by omega
      have hw8 : wrap64 (8 * (j : Int)) = 8 * (j : Int) := by rw [wrap64]; omega
      have hw1 : wrap64 ((j : Int) + 1) = (j : Int) + 1 := by rw [wrap64]; omega
      have HBYTE : Hid (wd / 2 ^ (8 * (j : Int)).toNat % 256 = byteOf wd j) := Lib.hid (by unfold byteOf; rw [show (8 * (j : Int)).toNat = 8 * j by omega])
      clear hbw hblk hmk HC
      go_wp2_with fail
      go_roundw
      case rel =>
        refine ⟨j + 1, by omega, by go_num, ?_, HBW.out.setCell (.inr (Nat.le_refl _)) _⟩
        refine (HBLK.out.set j _).congr (fun q hq => ?_)
        unfold upd
        by_cases hqj : q = j
        · subst hqj
          rw [if_pos rfl, if_pos (by omega)]
          rfl
        · rw [if_neg hqj]
          show (if q < j then Value.int .u8 (byteOf wd q) else Value.int .u8 0) = _
          by_cases hql : q < j
          · rw [if_pos hql, if_pos (by omega)]
          · rw [if_neg hql, if_neg (by omega)]
      case measure => simp [intOf]; omega
    · obtain rfl : j = n := by omega
      have hsee : Sees wr (.slice (some ⟨w2.heap.size, 0, none⟩) (wordBs wd j).length j) (u8s (wordBs wd j)) := by
        refine .inr ⟨⟨w2.heap.size, 0, none⟩, j, by rw [u8s_len], by rw [u8s_len, wordBs_len]; exact Nat.le_refl _, fun q v hq => ?_⟩
        have hql := (List.getElem?_eq_some_iff.1 hq).1
        rw [u8s_len, wordBs_len] at hql
        rw [add_at, Nat.zero_add, hblk.cell hql, if_pos hql]
        unfold u8s wordBs at hq
        rw [List.getElem?_map, List.getElem?_map, List.getElem?_range hql] at hq
        exact hq
      have hPlt := HB.out.lt
      have HWR := Lib.hid (write_c P o S true (some ⟨w2.heap.size, 0, none⟩) j (wordBs wd j) wr (by rw [wordBs_len]; exact HON.out) ((HB.out.but HBT2.out (by simp)).but hbw (by simp)) hsee (fun ad had _ => by cases had; have h := HBT2.out.size; show w2.heap.size ≠ P; omega) (by rw [wordBs_len]; exact Nat.le_refl _))
      rw [wordBs_len] at HWR
      clear hbw hblk hmk HC hsee hPlt hlt
      go_wp2_with fail
      refine HWR.out.mono ?_
      rintro e w9 ⟨rfl, hb9, hbt9⟩
      have HB9 := Lib.hid hb9
      have HBT9 := Lib.hid hbt9
      clear hb9 hbt9
      go_wp2_with fail
      go_ret
      exact ⟨rfl, HB9.out, (HBT2.out.trans HBW.out (by simp) |>.mono (by simp)).trans HBT9.out (fun y hy => .inl hy)⟩
set_option maxRecDepth 100000 in
set_option maxHeartbeats 4000000 in
theorem store_word2 (P o n : Nat) (S : Stk) (wd rg of_ : Int) (w : World) (hn : sizeB n = true) (hn8 : n ≤ 8) (hon : o + n ≤ 512) (hwf : (Lit.int .u8 1).wf = true) (hR : rightB ⟨1, wd, rg, of_⟩ = true) (hB : Blk w P 57 833 (S.val true)) (g1 : ((n : Int) == 8) = true) (g2 : ((o : Int) % 8 == 0) = true)  :
    Calls Try.prog 22 #[.pointer (some ⟨P, 0, none⟩), .int .i64 (o : Int), .int .i64 (n : Int), Value.agg #[.int .u8 1, .int .u64 wd, .int .i64 rg, .int .i64 of_]] w fun e w' => e = .returned (.int .i64 0) ∧ Blk w' P 57 833 ((wrL S o (wordBs wd n) (List.range (cntP o n))).val true) ∧ But [P] w w' := by
  have hz : checkE o n (rightB ⟨1, wd, rg, of_⟩) = 0 := by rw [hR]; unfold checkE; rw [if_pos rfl, if_pos (by omega)]
  have HC : Hid (∀ w1, But [] w w1 → Calls Try.prog 25 #[.pointer (some ⟨P, 0, none⟩), .int .i64 (o : Int), .int .i64 (n : Int), .bool (rightB ⟨1, wd, rg, of_⟩)] w1 fun e w' => e = .returned (.int .i64 0) ∧ w1 = w') := Lib.hid fun w1 hb => (check_c P S o n _ w1 (hB.but hb (by simp)) (fun _ => by omega)).mono fun e w' ⟨h1, h2⟩ => ⟨by rw [h1, hz], h2⟩
  have ho512 : o < 512 := by
    unfold sizeB at hn
    have h := of_decide_eq_true hn
    omega
  have HO := Lib.hid ho512
  have HN := Lib.hid hn
  have HWF := Lib.hid hwf
  have HB := Lib.hid hB
  have HON := Lib.hid hon
  clear hn hwf hB hon hR hz ho512
  go_enter Try.func22, Try.ntmps22
  go_wp2_with fail
  refine (sized_c _ _).mono ?_
  rintro e w1 ⟨rfl, hb1⟩
  rw [HN.out]
  have HX1 := Lib.hid (hb1.heap (al_at _ _) (by simp))
  have HBT1 := Lib.hid (((But.refl [] w).alloc (.cells #[.int .u8 1, .int .u64 wd, .int .i64 rg, .int .i64 of_] 33)).trans hb1 (by simp))
  clear hb1
  have d0 := cl_of HX1.out 0
  have d1 := cl_of HX1.out 1
  have d2 := cl_of HX1.out 2
  have d3 := cl_of HX1.out 3
  simp only [List.getElem?_toArray, List.getElem?_cons_zero, List.getElem?_cons_succ] at d0 d1 d2 d3
  go_wp2_with fail
  refine (right_c 1 wd rg of_ w1 HWF.out).mono ?_
  rintro e w2 ⟨rfl, hb2⟩
  have HX2 := Lib.hid (hb2.heap HX1.out (by simp))
  have HBT2 := Lib.hid (HBT1.out.trans hb2 (by simp))
  clear d0 d1 d2 d3 hb2 HX1 HBT1
  obtain ⟨rb, hrb⟩ : ∃ b, b = rightB ⟨1, wd, rg, of_⟩ := ⟨_, rfl⟩
  rw [← hrb] at HC ⊢
  clear hrb
  go_wp2_with fail
  refine (HC.out w2 HBT2.out).mono ?_
  rintro e w3 ⟨rfl, rfl⟩
  have d0 := cl_of HX2.out 0
  have d1 := cl_of HX2.out 1
  have d2 := cl_of HX2.out 2
  have d3 := cl_of HX2.out 3
  simp only [List.getElem?_toArray, List.getElem?_cons_zero, List.getElem?_cons_succ] at d0 d1 d2 d3
  have HX9 := Lib.hid HX2.out
  obtain ⟨i0, hi, hz0, hz1, hz2⟩ := info_parts (show (Try.prog.info? 5).map (fun i => (i.zero, i.size, i.bytes)) = some (some (.int .u8 0), 1, 1) by kernel_rfl)
  have hmk : (Instr.makeSlice 37 (.int .i64 (n : Int)) (.int .i64 (n : Int))).run Try.prog w2 = .ok (.slice (some ⟨w2.heap.size, 0, none⟩) n n) (w2.alloc (.cells (madeCells #[.int .u8 0] n) 5)) := by
    have h := run_make (P := Try.prog) w2 37 5 i0 (.int .u8 0) Try.underlying37 hi hz0 .i64 .i64 (n : Int) (n : Int) (by omega) (by omega) (by rw [hz2]; omega) (by omega)
    rw [h, hz1]
    simp only [Int.toNat_natCast, Nat.mul_one]
    rfl
  clear hi hz0 hz1 hz2
  have HZS : Hid (w.heap.size < w2.heap.size) := Lib.hid (by have h := HBT2.out.size; have h2 := lt_of HX2.out; omega)
  go_wp2_with fail
  go_loopw [53] (fun i wr => ∃ j : Nat, j ≤ n ∧ i = .int .i64 j ∧ Blk wr w2.heap.size 5 n (fun q => if q < j then .int .u8 (byteOf wd q) else .int .u8 0) ∧ But [] w2 wr) (fun i _ => n - (intOf i).toNat)
  case atStart =>
    refine ⟨0, by omega, rfl, ⟨_, al_at _ _, by simp [size_madeCells], fun q hq => ?_⟩, (But.refl _ _).alloc _⟩
    rw [made_at8 hq]
    rfl
  case round =>
    obtain ⟨j, hj, rfl, hblk, hbw⟩ := hrel
    have e1 := cl_of (hbw.heap HX2.out (by simp)) 1
    have e0 := cl_of (hbw.heap HX2.out (by simp)) 0
    simp only [List.getElem?_toArray, List.getElem?_cons_zero, List.getElem?_cons_succ] at e1 e0
    have HBLK := Lib.hid hblk
    have HBW := Lib.hid hbw
    have hj0 : (0 : Int) ≤ j := by omega
    by_cases hlt : j < n
    · have hjn : (j : Int) < n := by omega
      have hc := hblk.cell hlt
      have hfz := hblk.frozen j
      have hj8 : j < 8 := by omega
      have hsh : (0 : Int) ≤ 8 * (j : Int) := by omega
      have hw8 : wrap64 (8 * (j : Int)) = 8 * (j : Int) := by rw [wrap64]; omega
      have hw1 : wrap64 ((j : Int) + 1) = (j : Int) + 1 := by rw [wrap64]; omega
      have HBYTE : Hid (wd / 2 ^ (8 * (j : Int)).toNat % 256 = byteOf wd j) := Lib.hid (by unfold byteOf; rw [show (8 * (j : Int)).toNat = 8 * j by omega])
      clear hbw hblk hmk HC
      go_wp2_with fail
      go_roundw
      case rel =>
        refine ⟨j + 1, by omega, by go_num, ?_, HBW.out.setCell (.inr (Nat.le_refl _)) _⟩
        refine (HBLK.out.set j _).congr (fun q hq => ?_)
        unfold upd
        by_cases hqj : q = j
        · subst hqj
          rw [if_pos rfl, if_pos (by omega)]
          rfl
        · rw [if_neg hqj]
          show (if q < j then Value.int .u8 (byteOf wd q) else Value.int .u8 0) = _
          by_cases hql : q < j
          · rw [if_pos hql, if_pos (by omega)]
          · rw [if_neg hql, if_neg (by omega)]
      case measure => simp [intOf]; omega
    · obtain rfl : j = n := by omega
      have hsee : Sees wr (.slice (some ⟨w2.heap.size, 0, none⟩) (wordBs wd j).length j) (u8s (wordBs wd j)) := by
        refine .inr ⟨⟨w2.heap.size, 0, none⟩, j, by rw [u8s_len], by rw [u8s_len, wordBs_len]; exact Nat.le_refl _, fun q v hq => ?_⟩
        have hql := (List.getElem?_eq_some_iff.1 hq).1
        rw [u8s_len, wordBs_len] at hql
        rw [add_at, Nat.zero_add, hblk.cell hql, if_pos hql]
        unfold u8s wordBs at hq
        rw [List.getElem?_map, List.getElem?_map, List.getElem?_range hql] at hq
        exact hq
      have hPlt := HB.out.lt
      have HWR := Lib.hid (write_c P o S true (some ⟨w2.heap.size, 0, none⟩) j (wordBs wd j) wr (by rw [wordBs_len]; exact HON.out) ((HB.out.but HBT2.out (by simp)).but hbw (by simp)) hsee (fun ad had _ => by cases had; have h := HBT2.out.size; show w2.heap.size ≠ P; omega) (by rw [wordBs_len]; exact Nat.le_refl _))
      rw [wordBs_len] at HWR
      clear hbw hblk hmk HC hsee hPlt hlt
      go_wp2_with fail
      refine HWR.out.mono ?_
      rintro e w9 ⟨rfl, hb9, hbt9⟩
      have HB9 := Lib.hid hb9
      have HBT9 := Lib.hid hbt9
      clear hb9 hbt9
      go_wp2_with fail
      go_ret
      exact ⟨rfl, HB9.out, (HBT2.out.trans HBW.out (by simp) |>.mono (by simp)).trans HBT9.out (fun y hy => .inl hy)⟩
end Go.Proofs.Ytmaeiifhmngllaa.M
