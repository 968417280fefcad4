/-
  cell: Store's walk, where check tells yes (printed by mkstore.py).
-/
import Derived.Test.YtmaeiifhmngllaaStoreA
namespace Go.Proofs.Ytmaeiifhmngllaa.M
open Go.RowKit
set_option linter.unusedVariables false
set_option linter.unusedSectionVars false
set_option linter.unusedSimpArgs false
set_option maxRecDepth 100000 in
set_option maxHeartbeats 4000000 in
theorem store_none0 (P o n : Nat) (S : Stk) (wd rg of_ : Int) (w : World) (hn : sizeB n = true) (hn8 : n ≤ 8) (hon : o + n ≤ 512) (hwf : (Lit.int .u8 0).wf = true) (hR : rightB ⟨0, wd, rg, of_⟩ = true) (hB : Blk w P 57 833 (S.val true)) (g1 : ¬ ((n : Int) = 8))  :
    Calls Try.prog 22 #[.pointer (some ⟨P, 0, none⟩), .int .i64 (o : Int), .int .i64 (n : Int), Value.agg #[.int .u8 0, .int .u64 wd, .int .i64 rg, .int .i64 of_]] w fun e w' => e = .returned (.int .i64 30) ∧ But [] w w' := by
  have hz : checkE o n (rightB ⟨0, wd, rg, of_⟩) = 0 := by rw [hR]; unfold checkE; rw [if_pos rfl, if_pos (by omega)]
  have HC : Hid (∀ w1, But [] w w1 → Calls Try.prog 25 #[.pointer (some ⟨P, 0, none⟩), .int .i64 (o : Int), .int .i64 (n : Int), .bool (rightB ⟨0, wd, rg, of_⟩)] w1 fun e w' => e = .returned (.int .i64 0) ∧ w1 = w') := Lib.hid fun w1 hb => (check_c P S o n _ w1 (hB.but hb (by simp)) (fun _ => by omega)).mono fun e w' ⟨h1, h2⟩ => ⟨by rw [h1, hz], h2⟩
  have ho512 : o < 512 := by
    unfold sizeB at hn
    have h := of_decide_eq_true hn
    omega
  have HO := Lib.hid ho512
  have HN := Lib.hid hn
  have HWF := Lib.hid hwf
  have HB := Lib.hid hB
  have HON := Lib.hid hon
  clear hn hwf hB hon hR hz ho512
  go_enter Try.func22, Try.ntmps22
  go_wp2_with fail
  refine (sized_c _ _).mono ?_
  rintro e w1 ⟨rfl, hb1⟩
  rw [HN.out]
  have HX1 := Lib.hid (hb1.heap (al_at _ _) (by simp))
  have HBT1 := Lib.hid (((But.refl [] w).alloc (.cells #[.int .u8 0, .int .u64 wd, .int .i64 rg, .int .i64 of_] 33)).trans hb1 (by simp))
  clear hb1
  have d0 := cl_of HX1.out 0
  have d1 := cl_of HX1.out 1
  have d2 := cl_of HX1.out 2
  have d3 := cl_of HX1.out 3
  simp only [List.getElem?_toArray, List.getElem?_cons_zero, List.getElem?_cons_succ] at d0 d1 d2 d3
  go_wp2_with fail
  refine (right_c 0 wd rg of_ w1 HWF.out).mono ?_
  rintro e w2 ⟨rfl, hb2⟩
  have HX2 := Lib.hid (hb2.heap HX1.out (by simp))
  have HBT2 := Lib.hid (HBT1.out.trans hb2 (by simp))
  clear d0 d1 d2 d3 hb2 HX1 HBT1
  obtain ⟨rb, hrb⟩ : ∃ b, b = rightB ⟨0, wd, rg, of_⟩ := ⟨_, rfl⟩
  rw [← hrb] at HC ⊢
  clear hrb
  go_wp2_with fail
  refine (HC.out w2 HBT2.out).mono ?_
  rintro e w3 ⟨rfl, rfl⟩
  have d0 := cl_of HX2.out 0
  have d1 := cl_of HX2.out 1
  have d2 := cl_of HX2.out 2
  have d3 := cl_of HX2.out 3
  simp only [List.getElem?_toArray, List.getElem?_cons_zero, List.getElem?_cons_succ] at d0 d1 d2 d3
  go_wp2_with fail
  go_ret
  exact ⟨rfl, HBT2.out⟩
set_option maxRecDepth 100000 in
set_option maxHeartbeats 4000000 in
theorem store_none1 (P o n : Nat) (S : Stk) (wd rg of_ : Int) (w : World) (hn : sizeB n = true) (hn8 : n ≤ 8) (hon : o + n ≤ 512) (hwf : (Lit.int .u8 0).wf = true) (hR : rightB ⟨0, wd, rg, of_⟩ = true) (hB : Blk w P 57 833 (S.val true)) (g1 : ((n : Int) == 8) = true) (g2 : ((o : Int) % 8 == 0) = false)  :
    Calls Try.prog 22 #[.pointer (some ⟨P, 0, none⟩), .int .i64 (o : Int), .int .i64 (n : Int), Value.agg #[.int .u8 0, .int .u64 wd, .int .i64 rg, .int .i64 of_]] w fun e w' => e = .returned (.int .i64 30) ∧ But [] w w' := by
  have hz : checkE o n (rightB ⟨0, wd, rg, of_⟩) = 0 := by rw [hR]; unfold checkE; rw [if_pos rfl, if_pos (by omega)]
  have HC : Hid (∀ w1, But [] w w1 → Calls Try.prog 25 #[.pointer (some ⟨P, 0, none⟩), .int .i64 (o : Int), .int .i64 (n : Int), .bool (rightB ⟨0, wd, rg, of_⟩)] w1 fun e w' => e = .returned (.int .i64 0) ∧ w1 = w') := Lib.hid fun w1 hb => (check_c P S o n _ w1 (hB.but hb (by simp)) (fun _ => by omega)).mono fun e w' ⟨h1, h2⟩ => ⟨by rw [h1, hz], h2⟩
  have ho512 : o < 512 := by
    unfold sizeB at hn
    have h := of_decide_eq_true hn
    omega
  have HO := Lib.hid ho512
  have HN := Lib.hid hn
  have HWF := Lib.hid hwf
  have HB := Lib.hid hB
  have HON := Lib.hid hon
  clear hn hwf hB hon hR hz ho512
  go_enter Try.func22, Try.ntmps22
  go_wp2_with fail
  refine (sized_c _ _).mono ?_
  rintro e w1 ⟨rfl, hb1⟩
  rw [HN.out]
  have HX1 := Lib.hid (hb1.heap (al_at _ _) (by simp))
  have HBT1 := Lib.hid (((But.refl [] w).alloc (.cells #[.int .u8 0, .int .u64 wd, .int .i64 rg, .int .i64 of_] 33)).trans hb1 (by simp))
  clear hb1
  have d0 := cl_of HX1.out 0
  have d1 := cl_of HX1.out 1
  have d2 := cl_of HX1.out 2
  have d3 := cl_of HX1.out 3
  simp only [List.getElem?_toArray, List.getElem?_cons_zero, List.getElem?_cons_succ] at d0 d1 d2 d3
  go_wp2_with fail
  refine (right_c 0 wd rg of_ w1 HWF.out).mono ?_
  rintro e w2 ⟨rfl, hb2⟩
  have HX2 := Lib.hid (hb2.heap HX1.out (by simp))
  have HBT2 := Lib.hid (HBT1.out.trans hb2 (by simp))
  clear d0 d1 d2 d3 hb2 HX1 HBT1
  obtain ⟨rb, hrb⟩ : ∃ b, b = rightB ⟨0, wd, rg, of_⟩ := ⟨_, rfl⟩
  rw [← hrb] at HC ⊢
  clear hrb
  go_wp2_with fail
  refine (HC.out w2 HBT2.out).mono ?_
  rintro e w3 ⟨rfl, rfl⟩
  have d0 := cl_of HX2.out 0
  have d1 := cl_of HX2.out 1
  have d2 := cl_of HX2.out 2
  have d3 := cl_of HX2.out 3
  simp only [List.getElem?_toArray, List.getElem?_cons_zero, List.getElem?_cons_succ] at d0 d1 d2 d3
  go_wp2_with fail
  go_ret
  exact ⟨rfl, HBT2.out⟩
set_option maxRecDepth 100000 in
set_option maxHeartbeats 4000000 in
theorem store_none2 (P o n : Nat) (S : Stk) (wd rg of_ : Int) (w : World) (hn : sizeB n = true) (hn8 : n ≤ 8) (hon : o + n ≤ 512) (hwf : (Lit.int .u8 0).wf = true) (hR : rightB ⟨0, wd, rg, of_⟩ = true) (hB : Blk w P 57 833 (S.val true)) (g1 : ((n : Int) == 8) = true) (g2 : ((o : Int) % 8 == 0) = true)  :
    Calls Try.prog 22 #[.pointer (some ⟨P, 0, none⟩), .int .i64 (o : Int), .int .i64 (n : Int), Value.agg #[.int .u8 0, .int .u64 wd, .int .i64 rg, .int .i64 of_]] w fun e w' => e = .returned (.int .i64 30) ∧ But [] w w' := by
  have hz : checkE o n (rightB ⟨0, wd, rg, of_⟩) = 0 := by rw [hR]; unfold checkE; rw [if_pos rfl, if_pos (by omega)]
  have HC : Hid (∀ w1, But [] w w1 → Calls Try.prog 25 #[.pointer (some ⟨P, 0, none⟩), .int .i64 (o : Int), .int .i64 (n : Int), .bool (rightB ⟨0, wd, rg, of_⟩)] w1 fun e w' => e = .returned (.int .i64 0) ∧ w1 = w') := Lib.hid fun w1 hb => (check_c P S o n _ w1 (hB.but hb (by simp)) (fun _ => by omega)).mono fun e w' ⟨h1, h2⟩ => ⟨by rw [h1, hz], h2⟩
  have ho512 : o < 512 := by
    unfold sizeB at hn
    have h := of_decide_eq_true hn
    omega
  have HO := Lib.hid ho512
  have HN := Lib.hid hn
  have HWF := Lib.hid hwf
  have HB := Lib.hid hB
  have HON := Lib.hid hon
  clear hn hwf hB hon hR hz ho512
  go_enter Try.func22, Try.ntmps22
  go_wp2_with fail
  refine (sized_c _ _).mono ?_
  rintro e w1 ⟨rfl, hb1⟩
  rw [HN.out]
  have HX1 := Lib.hid (hb1.heap (al_at _ _) (by simp))
  have HBT1 := Lib.hid (((But.refl [] w).alloc (.cells #[.int .u8 0, .int .u64 wd, .int .i64 rg, .int .i64 of_] 33)).trans hb1 (by simp))
  clear hb1
  have d0 := cl_of HX1.out 0
  have d1 := cl_of HX1.out 1
  have d2 := cl_of HX1.out 2
  have d3 := cl_of HX1.out 3
  simp only [List.getElem?_toArray, List.getElem?_cons_zero, List.getElem?_cons_succ] at d0 d1 d2 d3
  go_wp2_with fail
  refine (right_c 0 wd rg of_ w1 HWF.out).mono ?_
  rintro e w2 ⟨rfl, hb2⟩
  have HX2 := Lib.hid (hb2.heap HX1.out (by simp))
  have HBT2 := Lib.hid (HBT1.out.trans hb2 (by simp))
  clear d0 d1 d2 d3 hb2 HX1 HBT1
  obtain ⟨rb, hrb⟩ : ∃ b, b = rightB ⟨0, wd, rg, of_⟩ := ⟨_, rfl⟩
  rw [← hrb] at HC ⊢
  clear hrb
  go_wp2_with fail
  refine (HC.out w2 HBT2.out).mono ?_
  rintro e w3 ⟨rfl, rfl⟩
  have d0 := cl_of HX2.out 0
  have d1 := cl_of HX2.out 1
  have d2 := cl_of HX2.out 2
  have d3 := cl_of HX2.out 3
  simp only [List.getElem?_toArray, List.getElem?_cons_zero, List.getElem?_cons_succ] at d0 d1 d2 d3
  go_wp2_with fail
  go_ret
  exact ⟨rfl, HBT2.out⟩
set_option maxRecDepth 100000 in
set_option maxHeartbeats 4000000 in
theorem store_part0 (P o n : Nat) (S : Stk) (k wd rg of_ : Int) (w : World) (hn : sizeB n = true) (hn8 : n ≤ 8) (hon : o + n ≤ 512) (hwf : (Lit.int .u8 k).wf = true) (hR : rightB ⟨k, wd, rg, of_⟩ = true) (hB : Blk w P 57 833 (S.val true)) (g1 : ¬ ((n : Int) = 8)) (hk0 : (k == 0) = false) (hk1 : (k == 1) = false) :
    Calls Try.prog 22 #[.pointer (some ⟨P, 0, none⟩), .int .i64 (o : Int), .int .i64 (n : Int), Value.agg #[.int .u8 k, .int .u64 wd, .int .i64 rg, .int .i64 of_]] w fun e w' => e = .returned (.int .i64 38) ∧ But [] w w' := by
  have hz : checkE o n (rightB ⟨k, wd, rg, of_⟩) = 0 := by rw [hR]; unfold checkE; rw [if_pos rfl, if_pos (by omega)]
  have HC : Hid (∀ w1, But [] w w1 → Calls Try.prog 25 #[.pointer (some ⟨P, 0, none⟩), .int .i64 (o : Int), .int .i64 (n : Int), .bool (rightB ⟨k, wd, rg, of_⟩)] w1 fun e w' => e = .returned (.int .i64 0) ∧ w1 = w') := Lib.hid fun w1 hb => (check_c P S o n _ w1 (hB.but hb (by simp)) (fun _ => by omega)).mono fun e w' ⟨h1, h2⟩ => ⟨by rw [h1, hz], h2⟩
  have ho512 : o < 512 := by
    unfold sizeB at hn
    have h := of_decide_eq_true hn
    omega
  have HO := Lib.hid ho512
  have HN := Lib.hid hn
  have HWF := Lib.hid hwf
  have HB := Lib.hid hB
  have HON := Lib.hid hon
  clear hn hwf hB hon hR hz ho512
  go_enter Try.func22, Try.ntmps22
  go_wp2_with fail
  refine (sized_c _ _).mono ?_
  rintro e w1 ⟨rfl, hb1⟩
  rw [HN.out]
  have HX1 := Lib.hid (hb1.heap (al_at _ _) (by simp))
  have HBT1 := Lib.hid (((But.refl [] w).alloc (.cells #[.int .u8 k, .int .u64 wd, .int .i64 rg, .int .i64 of_] 33)).trans hb1 (by simp))
  clear hb1
  have d0 := cl_of HX1.out 0
  have d1 := cl_of HX1.out 1
  have d2 := cl_of HX1.out 2
  have d3 := cl_of HX1.out 3
  simp only [List.getElem?_toArray, List.getElem?_cons_zero, List.getElem?_cons_succ] at d0 d1 d2 d3
  go_wp2_with fail
  refine (right_c k wd rg of_ w1 HWF.out).mono ?_
  rintro e w2 ⟨rfl, hb2⟩
  have HX2 := Lib.hid (hb2.heap HX1.out (by simp))
  have HBT2 := Lib.hid (HBT1.out.trans hb2 (by simp))
  clear d0 d1 d2 d3 hb2 HX1 HBT1
  obtain ⟨rb, hrb⟩ : ∃ b, b = rightB ⟨k, wd, rg, of_⟩ := ⟨_, rfl⟩
  rw [← hrb] at HC ⊢
  clear hrb
  go_wp2_with fail
  refine (HC.out w2 HBT2.out).mono ?_
  rintro e w3 ⟨rfl, rfl⟩
  have d0 := cl_of HX2.out 0
  have d1 := cl_of HX2.out 1
  have d2 := cl_of HX2.out 2
  have d3 := cl_of HX2.out 3
  simp only [List.getElem?_toArray, List.getElem?_cons_zero, List.getElem?_cons_succ] at d0 d1 d2 d3
  go_wp2_with fail
  go_ret
  exact ⟨rfl, HBT2.out⟩
set_option maxRecDepth 100000 in
set_option maxHeartbeats 4000000 in
theorem store_part1 (P o n : Nat) (S : Stk) (k wd rg of_ : Int) (w : World) (hn : sizeB n = true) (hn8 : n ≤ 8) (hon : o + n ≤ 512) (hwf : (Lit.int .u8 k).wf = true) (hR : rightB ⟨k, wd, rg, of_⟩ = true) (hB : Blk w P 57 833 (S.val true)) (g1 : ((n : Int) == 8) = true) (g2 : ((o : Int) % 8 == 0) = false) (hk0 : (k == 0) = false) (hk1 : (k == 1) = false) :
    Calls Try.prog 22 #[.pointer (some ⟨P, 0, none⟩), .int .i64 (o : Int), .int .i64 (n : Int), Value.agg #[.int .u8 k, .int .u64 wd, .int .i64 rg, .int .i64 of_]] w fun e w' => e = .returned (.int .i64 38) ∧ But [] w w' := by
  have hz : checkE o n (rightB ⟨k, wd, rg, of_⟩) = 0 := by rw [hR]; unfold checkE; rw [if_pos rfl, if_pos (by omega)]
  have HC : Hid (∀ w1, But [] w w1 → Calls Try.prog 25 #[.pointer (some ⟨P, 0, none⟩), .int .i64 (o : Int), .int .i64 (n : Int), .bool (rightB ⟨k, wd, rg, of_⟩)] w1 fun e w' => e = .returned (.int .i64 0) ∧ w1 = w') := Lib.hid fun w1 hb => (check_c P S o n _ w1 (hB.but hb (by simp)) (fun _ => by omega)).mono fun e w' ⟨h1, h2⟩ => ⟨by rw [h1, hz], h2⟩
  have ho512 : o < 512 := by
    unfold sizeB at hn
    have h := of_decide_eq_true hn
    omega
  have HO := Lib.hid ho512
  have HN := Lib.hid hn
  have HWF := Lib.hid hwf
  have HB := Lib.hid hB
  have HON := Lib.hid hon
  clear hn hwf hB hon hR hz ho512
  go_enter Try.func22, Try.ntmps22
  go_wp2_with fail
  refine (sized_c _ _).mono ?_
  rintro e w1 ⟨rfl, hb1⟩
  rw [HN.out]
  have HX1 := Lib.hid (hb1.heap (al_at _ _) (by simp))
  have HBT1 := Lib.hid (((But.refl [] w).alloc (.cells #[.int .u8 k, .int .u64 wd, .int .i64 rg, .int .i64 of_] 33)).trans hb1 (by simp))
  clear hb1
  have d0 := cl_of HX1.out 0
  have d1 := cl_of HX1.out 1
  have d2 := cl_of HX1.out 2
  have d3 := cl_of HX1.out 3
  simp only [List.getElem?_toArray, List.getElem?_cons_zero, List.getElem?_cons_succ] at d0 d1 d2 d3
  go_wp2_with fail
  refine (right_c k wd rg of_ w1 HWF.out).mono ?_
  rintro e w2 ⟨rfl, hb2⟩
  have HX2 := Lib.hid (hb2.heap HX1.out (by simp))
  have HBT2 := Lib.hid (HBT1.out.trans hb2 (by simp))
  clear d0 d1 d2 d3 hb2 HX1 HBT1
  obtain ⟨rb, hrb⟩ : ∃ b, b = rightB ⟨k, wd, rg, of_⟩ := ⟨_, rfl⟩
  rw [← hrb] at HC ⊢
  clear hrb
  go_wp2_with fail
  refine (HC.out w2 HBT2.out).mono ?_
  rintro e w3 ⟨rfl, rfl⟩
  have d0 := cl_of HX2.out 0
  have d1 := cl_of HX2.out 1
  have d2 := cl_of HX2.out 2
  have d3 := cl_of HX2.out 3
  simp only [List.getElem?_toArray, List.getElem?_cons_zero, List.getElem?_cons_succ] at d0 d1 d2 d3
  go_wp2_with fail
  go_ret
  exact ⟨rfl, HBT2.out⟩
end Go.Proofs.Ytmaeiifhmngllaa.M
