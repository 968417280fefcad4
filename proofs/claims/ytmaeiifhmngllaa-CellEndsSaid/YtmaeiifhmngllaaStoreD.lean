/-
  cell: Store's walk, whole (printed by mkstore.py).
-/
import Derived.Test.YtmaeiifhmngllaaStoreA
namespace Go.Proofs.Ytmaeiifhmngllaa.M
open Go.RowKit
set_option linter.unusedVariables false
set_option linter.unusedSectionVars false
set_option linter.unusedSimpArgs false
set_option maxRecDepth 100000 in
set_option maxHeartbeats 4000000 in
theorem store_whole (P o n : Nat) (S : Stk) (k wd rg of_ : Int) (w : World) (hn : sizeB n = true) (hn8 : n ≤ 8) (hon : o + n ≤ 512) (hwf : (Lit.int .u8 k).wf = true) (hR : rightB ⟨k, wd, rg, of_⟩ = true) (hB : Blk w P 57 833 (S.val true)) (g1 : ((n : Int) == 8) = true) (g2 : ((o : Int) % 8 == 0) = true) (hk0 : (k == 0) = false) (hk1 : (k == 1) = false) :
    Calls Try.prog 22 #[.pointer (some ⟨P, 0, none⟩), .int .i64 (o : Int), .int .i64 (n : Int), Value.agg #[.int .u8 k, .int .u64 wd, .int .i64 rg, .int .i64 of_]] w fun e w' => e = .returned (.int .i64 0) ∧ Blk w' P 57 833 ((setG S (o / 8) ⟨k, wd, rg, of_⟩).val true) ∧ But [P] w w' := by
  have hz : checkE o n (rightB ⟨k, wd, rg, of_⟩) = 0 := by rw [hR]; unfold checkE; rw [if_pos rfl, if_pos (by omega)]
  have HC : Hid (∀ w1, But [] w w1 → Calls Try.prog 25 #[.pointer (some ⟨P, 0, none⟩), .int .i64 (o : Int), .int .i64 (n : Int), .bool (rightB ⟨k, wd, rg, of_⟩)] w1 fun e w' => e = .returned (.int .i64 0) ∧ w1 = w') := Lib.hid fun w1 hb => (check_c P S o n _ w1 (hB.but hb (by simp)) (fun _ => by omega)).mono fun e w' ⟨h1, h2⟩ => ⟨by rw [h1, hz], h2⟩
  have ho512 : o < 512 := by
    unfold sizeB at hn
    have h := of_decide_eq_true hn
    omega
  have HO := Lib.hid ho512
  have HN := Lib.hid hn
  have HWF := Lib.hid hwf
  have HB := Lib.hid hB
  have HON := Lib.hid hon
  clear hn hwf hB hon hR hz ho512
  go_enter Try.func22, Try.ntmps22
  go_wp2_with fail
  refine (sized_c _ _).mono ?_
  rintro e w1 ⟨rfl, hb1⟩
  rw [HN.out]
  have HX1 := Lib.hid (hb1.heap (al_at _ _) (by simp))
  have HBT1 := Lib.hid (((But.refl [] w).alloc (.cells #[.int .u8 k, .int .u64 wd, .int .i64 rg, .int .i64 of_] 33)).trans hb1 (by simp))
  clear hb1
  have d0 := cl_of HX1.out 0
  have d1 := cl_of HX1.out 1
  have d2 := cl_of HX1.out 2
  have d3 := cl_of HX1.out 3
  simp only [List.getElem?_toArray, List.getElem?_cons_zero, List.getElem?_cons_succ] at d0 d1 d2 d3
  go_wp2_with fail
  refine (right_c k wd rg of_ w1 HWF.out).mono ?_
  rintro e w2 ⟨rfl, hb2⟩
  have HX2 := Lib.hid (hb2.heap HX1.out (by simp))
  have HBT2 := Lib.hid (HBT1.out.trans hb2 (by simp))
  clear d0 d1 d2 d3 hb2 HX1 HBT1
  obtain ⟨rb, hrb⟩ : ∃ b, b = rightB ⟨k, wd, rg, of_⟩ := ⟨_, rfl⟩
  rw [← hrb] at HC ⊢
  clear hrb
  go_wp2_with fail
  refine (HC.out w2 HBT2.out).mono ?_
  rintro e w3 ⟨rfl, rfl⟩
  have d0 := cl_of HX2.out 0
  have d1 := cl_of HX2.out 1
  have d2 := cl_of HX2.out 2
  have d3 := cl_of HX2.out 3
  simp only [List.getElem?_toArray, List.getElem?_cons_zero, List.getElem?_cons_succ] at d0 d1 d2 d3
  obtain ⟨k_, hk_⟩ : ∃ x, x = o / 8 := ⟨_, rfl⟩
  have hk64 : k_ < 64 := by have := HO.out; omega
  have HB2 := Lib.hid (HB.out.but HBT2.out (by simp))
  have HC9 := Lib.hid (Blk.congr (((((((((((((HB2.out.set (k_ * 13) (.int .u8 k)).set (k_ * 13 + 1) (.int .u64 wd)).set (k_ * 13 + 2) (.int .i64 rg)).set (k_ * 13 + 3) (.int .i64 of_)).set (k_ * 13 + 4) (.int .u8 0)).set (k_ * 13 + 5) (.int .u8 0)).set (k_ * 13 + 6) (.int .u8 0)).set (k_ * 13 + 7) (.int .u8 0)).set (k_ * 13 + 8) (.int .u8 0)).set (k_ * 13 + 9) (.int .u8 0)).set (k_ * 13 + 10) (.int .u8 0)).set (k_ * 13 + 11) (.int .u8 0)).set (k_ * 13 + 12) (.int .u8 0)) (setg_val S true ⟨k, wd, rg, of_⟩ hk64))
  have e0 := HB2.out.cell (i := k_ * 13) (by omega)
  have f0 := HB2.out.frozen (k_ * 13)
  have e1 := HB2.out.cell (i := k_ * 13 + 1) (by omega)
  have f1 := HB2.out.frozen (k_ * 13 + 1)
  have e2 := HB2.out.cell (i := k_ * 13 + 2) (by omega)
  have f2 := HB2.out.frozen (k_ * 13 + 2)
  have e3 := HB2.out.cell (i := k_ * 13 + 3) (by omega)
  have f3 := HB2.out.frozen (k_ * 13 + 3)
  have e4 := HB2.out.cell (i := k_ * 13 + 4) (by omega)
  have f4 := HB2.out.frozen (k_ * 13 + 4)
  have e5 := HB2.out.cell (i := k_ * 13 + 5) (by omega)
  have f5 := HB2.out.frozen (k_ * 13 + 5)
  have e6 := HB2.out.cell (i := k_ * 13 + 6) (by omega)
  have f6 := HB2.out.frozen (k_ * 13 + 6)
  have e7 := HB2.out.cell (i := k_ * 13 + 7) (by omega)
  have f7 := HB2.out.frozen (k_ * 13 + 7)
  have e8 := HB2.out.cell (i := k_ * 13 + 8) (by omega)
  have f8 := HB2.out.frozen (k_ * 13 + 8)
  have e9 := HB2.out.cell (i := k_ * 13 + 9) (by omega)
  have f9 := HB2.out.frozen (k_ * 13 + 9)
  have e10 := HB2.out.cell (i := k_ * 13 + 10) (by omega)
  have f10 := HB2.out.frozen (k_ * 13 + 10)
  have e11 := HB2.out.cell (i := k_ * 13 + 11) (by omega)
  have f11 := HB2.out.frozen (k_ * 13 + 11)
  have e12 := HB2.out.cell (i := k_ * 13 + 12) (by omega)
  have f12 := HB2.out.frozen (k_ * 13 + 12)
  have HRA : Hid (Calls Try.prog 27 #[.pointer (some ⟨P, 0, none⟩), .int .i64 (o : Int)] w2.drew fun e w' => e = .returned (.pointer (some ⟨P, k_ * 13, none⟩)) ∧ w' = w2.drew) := Lib.hid (by rw [hk_]; exact rowAt_still P o w2.drew HO.out)
  have HK := Lib.hid hk_
  clear HC hk_
  go_upto_region 5 with fail
  refine wp_region_tail9 8 (by kernel_rfl) (by kernel_rfl) ?_
  simp only [List.take_succ_cons, List.take_zero, List.drop_succ_cons, List.drop_zero]
  repeat still_step
  still_call HRA.out
  repeat still_step
  refine wpStill_nil ?_
  go_wp2_with fail
  go_ret
  rw [← HK.out]
  refine ⟨rfl, ?_, ?_⟩
  · exact HC9.out.but ((But.refl [] _).drew) (by simp)
  · exact (HBT2.out.mono (by simp)).trans (((((((((((((((But.refl [P] w2).setCell (.inl (by simp)) (.int .u8 k)).setCell (.inl (by simp)) (.int .u64 wd)).setCell (.inl (by simp)) (.int .i64 rg)).setCell (.inl (by simp)) (.int .i64 of_)).setCell (.inl (by simp)) (.int .u8 0)).setCell (.inl (by simp)) (.int .u8 0)).setCell (.inl (by simp)) (.int .u8 0)).setCell (.inl (by simp)) (.int .u8 0)).setCell (.inl (by simp)) (.int .u8 0)).setCell (.inl (by simp)) (.int .u8 0)).setCell (.inl (by simp)) (.int .u8 0)).setCell (.inl (by simp)) (.int .u8 0)).setCell (.inl (by simp)) (.int .u8 0)).drew) (fun y hy => .inl hy)
end Go.Proofs.Ytmaeiifhmngllaa.M
