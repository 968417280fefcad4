/-
  cell: Store (printed by mkstore.py).
-/
import Derived.Test.YtmaeiifhmngllaaLoad
import Derived.Test.YtmaeiifhmngllaaRight
namespace Go.Proofs.Ytmaeiifhmngllaa.M
open Go.RowKit
set_option linter.unusedVariables false
set_option linter.unusedSectionVars false
set_option linter.unusedSimpArgs false
/-- A cell stands in a group, whole. -/
def setG (S : Stk) (k : Nat) (c : CV) : Stk := { whole := fun j => if j = k then c else S.whole j, byte := fun a => if a / 8 = k then 0 else S.byte a, set := fun j => if j = k then 0 else S.set j }
theorem setg_val (S : Stk) (made : Bool) {k : Nat} (c : CV) (hk : k < 64) : ∀ i, i < 833 → (upd (upd (upd (upd (upd (upd (upd (upd (upd (upd (upd (upd (upd (S.val made) (k * 13) (.int .u8 c.k)) (k * 13 + 1) (.int .u64 c.w)) (k * 13 + 2) (.int .i64 c.r)) (k * 13 + 3) (.int .i64 c.o)) (k * 13 + 4) (.int .u8 0)) (k * 13 + 5) (.int .u8 0)) (k * 13 + 6) (.int .u8 0)) (k * 13 + 7) (.int .u8 0)) (k * 13 + 8) (.int .u8 0)) (k * 13 + 9) (.int .u8 0)) (k * 13 + 10) (.int .u8 0)) (k * 13 + 11) (.int .u8 0)) (k * 13 + 12) (.int .u8 0)) i = (setG S k c).val made i := by
  intro i hi
  rcases place_cases hi with rfl | ⟨j, hj, ⟨q, hq, rfl⟩ | ⟨q, hq, rfl⟩ | rfl⟩
  · rw [val_made]
    simp only [upd]
    repeat rw [if_neg (by omega)]
    exact val_made S made
  · rw [val_whole _ _ hj hq]
    show _ = (if j = k then c else S.whole j).at q
    by_cases e : j = k
    · subst e
      rw [if_pos rfl]
      match q, hq with
      | 0, _ => simp [upd, CV.at]
      | 1, _ => simp [upd, CV.at]
      | 2, _ => simp [upd, CV.at]
      | 3, _ => simp [upd, CV.at]
    · rw [if_neg e]
      simp only [upd]
      repeat rw [if_neg (by omega)]
      exact val_whole S made hj hq
  · rw [val_byte _ _ hj hq]
    show _ = Value.int .u8 (if (8 * j + q) / 8 = k then 0 else S.byte (8 * j + q))
    by_cases e : j = k
    · subst e
      rw [if_pos (by omega)]
      match q, hq with
      | 0, _ => simp [upd]
      | 1, _ => simp [upd]
      | 2, _ => simp [upd]
      | 3, _ => simp [upd]
      | 4, _ => simp [upd]
      | 5, _ => simp [upd]
      | 6, _ => simp [upd]
      | 7, _ => simp [upd]
    · rw [if_neg (by omega)]
      simp only [upd]
      repeat rw [if_neg (by omega)]
      exact val_byte S made hj hq
  · rw [val_set _ _ hj]
    show _ = Value.int .u8 (if j = k then 0 else S.set j)
    by_cases e : j = k
    · subst e
      rw [if_pos rfl]
      simp [upd]
    · rw [if_neg e]
      simp only [upd]
      repeat rw [if_neg (by omega)]
      exact val_set S made hj
/-- A word's bytes, the lowest first. -/
def byteOf (x : Int) (j : Nat) : Int := x / 2 ^ (8 * j) % 256
def wordBs (x : Int) (n : Nat) : List Int := (List.range n).map (byteOf x)
theorem wordBs_len (x : Int) (n : Nat) : (wordBs x n).length = n := by simp [wordBs]
theorem wordBs_byte (x : Int) (n : Nat) : ByteL (wordBs x n) := fun y hy => by
  simp only [wordBs, List.mem_map] at hy
  obtain ⟨j, _, rfl⟩ := hy
  unfold byteOf
  omega
theorem rowAt_still (P : Nat) (place : Nat) (w : World) (hp : place < 512) : Calls Try.prog 27 #[.pointer (some ⟨P, 0, none⟩), .int .i64 (place : Int)] w fun e w' => e = .returned (.pointer (some ⟨P, place / 8 * 13, none⟩)) ∧ w' = w :=
  (rowAt P place w hp).mono fun _ _ ⟨h1, h2⟩ => ⟨h1, h2.symm⟩
theorem store_bad0 (p : Value) (off n k wd rg of_ E : Int) (w : World) (hn : sizeB n = false) (hC : ∀ w1, But [] w w1 → Calls Try.prog 25 #[p, .int .i64 off, .int .i64 n, .bool false] w1 fun e w' => e = .returned (.int .i64 E) ∧ w1 = w') (hE : (E == 0) = false) :
    Calls Try.prog 22 #[p, .int .i64 off, .int .i64 n, Value.agg #[.int .u8 k, .int .u64 wd, .int .i64 rg, .int .i64 of_]] w fun e w' => e = .returned (.int .i64 E) ∧ But [] w w' := by
  have HC := Lib.hid hC
  have HN := Lib.hid hn
  clear hC hn
  go_enter Try.func22, Try.ntmps22
  go_wp2_with fail
  refine (sized_c _ _).mono ?_
  rintro e w1 ⟨rfl, hb1⟩
  rw [HN.out]
  have HX1 := Lib.hid (hb1.heap (al_at _ _) (by simp))
  have HBT1 := Lib.hid (((But.refl [] w).alloc (.cells #[.int .u8 k, .int .u64 wd, .int .i64 rg, .int .i64 of_] 33)).trans hb1 (by simp))
  clear hb1
  go_wp2_with fail
  refine (HC.out w1 HBT1.out).mono ?_
  rintro e w3 ⟨rfl, rfl⟩
  go_wp2_with fail
  go_ret
  exact ⟨rfl, HBT1.out⟩
theorem store_bad1 (p : Value) (off n k wd rg of_ E : Int) (w : World) (hn : sizeB n = true) (hwf : (Lit.int .u8 k).wf = true) (hC : ∀ w1, But [] w w1 → Calls Try.prog 25 #[p, .int .i64 off, .int .i64 n, .bool (rightB ⟨k, wd, rg, of_⟩)] w1 fun e w' => e = .returned (.int .i64 E) ∧ w1 = w') (hE : (E == 0) = false) :
    Calls Try.prog 22 #[p, .int .i64 off, .int .i64 n, Value.agg #[.int .u8 k, .int .u64 wd, .int .i64 rg, .int .i64 of_]] w fun e w' => e = .returned (.int .i64 E) ∧ But [] w w' := by
  have HC := Lib.hid hC
  have HN := Lib.hid hn
  have HWF := Lib.hid hwf
  clear hC hn hwf
  go_enter Try.func22, Try.ntmps22
  go_wp2_with fail
  refine (sized_c _ _).mono ?_
  rintro e w1 ⟨rfl, hb1⟩
  rw [HN.out]
  have HX1 := Lib.hid (hb1.heap (al_at _ _) (by simp))
  have HBT1 := Lib.hid (((But.refl [] w).alloc (.cells #[.int .u8 k, .int .u64 wd, .int .i64 rg, .int .i64 of_] 33)).trans hb1 (by simp))
  clear hb1
  have d0 := cl_of HX1.out 0
  have d1 := cl_of HX1.out 1
  have d2 := cl_of HX1.out 2
  have d3 := cl_of HX1.out 3
  simp only [List.getElem?_toArray, List.getElem?_cons_zero, List.getElem?_cons_succ] at d0 d1 d2 d3
  go_wp2_with fail
  refine (right_c k wd rg of_ w1 HWF.out).mono ?_
  rintro e w2 ⟨rfl, hb2⟩
  have HX2 := Lib.hid (hb2.heap HX1.out (by simp))
  have HBT2 := Lib.hid (HBT1.out.trans hb2 (by simp))
  clear d0 d1 d2 d3 hb2 HX1 HBT1
  obtain ⟨rb, hrb⟩ : ∃ b, b = rightB ⟨k, wd, rg, of_⟩ := ⟨_, rfl⟩
  rw [← hrb] at HC ⊢
  clear hrb
  go_wp2_with fail
  refine (HC.out w2 HBT2.out).mono ?_
  rintro e w3 ⟨rfl, rfl⟩
  go_wp2_with fail
  go_ret
  exact ⟨rfl, HBT2.out⟩
end Go.Proofs.Ytmaeiifhmngllaa.M
