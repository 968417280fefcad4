/-
  cell: Store's contract.
-/
import Derived.Test.YtmaeiifhmngllaaStoreB
import Derived.Test.YtmaeiifhmngllaaStoreC
import Derived.Test.YtmaeiifhmngllaaStoreD
import Derived.Test.YtmaeiifhmngllaaLoadB
namespace Go.Proofs.Ytmaeiifhmngllaa.M
open Go.RowKit
set_option linter.unusedVariables false
set_option linter.unusedSectionVars false
set_option linter.unusedSimpArgs false
def storeE (off n : Int) (c : CV) : Int :=
  if checkE off n (sizeB n && rightB c) ≠ 0 then checkE off n (sizeB n && rightB c)
  else if c.k = 0 then 30 else if c.k = 1 then 0 else if n = 8 ∧ off % 8 = 0 then 0 else 38
def storeS (S : Stk) (off n : Int) (c : CV) : Stk :=
  if storeE off n c ≠ 0 then S
  else if c.k = 1 then wrL S off.toNat (wordBs c.w n.toNat) (List.range (cntP off.toNat n.toNat)) else setG S (off.toNat / 8) c
theorem checkE_ok {off n : Int} {may : Bool} (h : checkE off n may = 0) : may = true ∧ 0 ≤ off ∧ off ≤ 512 - n := by
  unfold checkE at h
  cases may with
  | false => cases h
  | true =>
    rw [if_pos rfl] at h
    by_cases h1 : 0 ≤ off ∧ off ≤ 512 - n
    · exact ⟨rfl, h1⟩
    · rw [if_neg h1] at h; cases h
theorem store_bad (p : Value) (off n : Int) (c : CV) (E : Int) (w : World) (hwf : (Lit.int .u8 c.k).wf = true) (hC : ∀ w1, But [] w w1 → Calls Try.prog 25 #[p, .int .i64 off, .int .i64 n, .bool (sizeB n && rightB c)] w1 fun e w' => e = .returned (.int .i64 E) ∧ w1 = w') (hE : (E == 0) = false) :
    Calls Try.prog 22 #[p, .int .i64 off, .int .i64 n, c.agg] w fun e w' => e = .returned (.int .i64 E) ∧ But [] w w' := by
  obtain ⟨k, wd, rg, of_⟩ := c
  cases hs : sizeB n with
  | false =>
    rw [hs] at hC
    exact store_bad0 p off n k wd rg of_ E w hs hC hE
  | true =>
    rw [hs] at hC
    exact store_bad1 p off n k wd rg of_ E w hs hwf hC hE
theorem Store_c (P : Nat) (S : Stk) (off n : Int) (c : CV) (w : World) (hwf : (Lit.int .u8 c.k).wf = true) (hB : Blk w P 57 833 (S.val true)) :
    Calls Try.prog 22 #[.pointer (some ⟨P, 0, none⟩), .int .i64 off, .int .i64 n, c.agg] w fun e w' => e = .returned (.int .i64 (storeE off n c)) ∧ Blk w' P 57 833 ((storeS S off n c).val true) ∧ But [P] w w' := by
  by_cases hE : checkE off n (sizeB n && rightB c) = 0
  · obtain ⟨hm, h0, h1⟩ := checkE_ok hE
    rw [Bool.and_eq_true] at hm
    obtain ⟨hs, hr⟩ := hm
    obtain ⟨hn0, hn8⟩ := size_cases hs
    obtain ⟨o, rfl⟩ := Int.eq_ofNat_of_zero_le h0
    obtain ⟨m, rfl⟩ := Int.eq_ofNat_of_zero_le hn0
    obtain ⟨k, wd, rg, of_⟩ := c
    have hm8 : m ≤ 8 := by omega
    have hon : o + m ≤ 512 := by omega
    have hE1 : ∀ x, (if checkE o m (sizeB m && rightB ⟨k, wd, rg, of_⟩) ≠ 0 then checkE o m (sizeB m && rightB ⟨k, wd, rg, of_⟩) else x) = x := fun x => if_neg (by simp [hE])
    by_cases k0 : k = 0
    · subst k0
      have hl : storeE o m ⟨0, wd, rg, of_⟩ = 30 := by unfold storeE; rw [hE1]; rfl
      have hS : storeS S o m ⟨0, wd, rg, of_⟩ = S := by unfold storeS; rw [hl]; rfl
      have hgo : Calls Try.prog 22 #[.pointer (some ⟨P, 0, none⟩), .int .i64 (o : Int), .int .i64 (m : Int), Value.agg #[.int .u8 0, .int .u64 wd, .int .i64 rg, .int .i64 of_]] w fun e w' => e = .returned (.int .i64 30) ∧ But [] w w' := by
        by_cases g1 : m = 8
        · by_cases g2 : (o : Int) % 8 = 0
          · exact store_none2 P o m S wd rg of_ w hs hm8 hon hwf hr hB (by simp [g1]) (by simpa using g2)
          · exact store_none1 P o m S wd rg of_ w hs hm8 hon hwf hr hB (by simp [g1]) (by simpa using g2)
        · exact store_none0 P o m S wd rg of_ w hs hm8 hon hwf hr hB (by omega)
      refine hgo.mono ?_
      rintro e w' ⟨rfl, hb⟩
      rw [hl, hS]
      exact ⟨rfl, hB.but hb (by simp), hb.mono (by simp)⟩
    · by_cases k1 : k = 1
      · subst k1
        have hl : storeE o m ⟨1, wd, rg, of_⟩ = 0 := by unfold storeE; rw [hE1]; rfl
        have hS : storeS S o m ⟨1, wd, rg, of_⟩ = wrL S o (wordBs wd m) (List.range (cntP o m)) := by unfold storeS; rw [hl]; rfl
        rw [hl, hS]
        by_cases g1 : m = 8
        · by_cases g2 : (o : Int) % 8 = 0
          · exact store_word2 P o m S wd rg of_ w hs hm8 hon hwf hr hB (by simp [g1]) (by simpa using g2)
          · exact store_word1 P o m S wd rg of_ w hs hm8 hon hwf hr hB (by simp [g1]) (by simpa using g2)
        · exact store_word0 P o m S wd rg of_ w hs hm8 hon hwf hr hB (by omega)
      · have hk0 : (k == 0) = false := by simpa using k0
        have hk1 : (k == 1) = false := by simpa using k1
        by_cases hw : (m : Int) = 8 ∧ (o : Int) % 8 = 0
        · have hl : storeE o m ⟨k, wd, rg, of_⟩ = 0 := by unfold storeE; rw [hE1, if_neg k0, if_neg k1, if_pos hw]
          have hS : storeS S o m ⟨k, wd, rg, of_⟩ = setG S (o / 8) ⟨k, wd, rg, of_⟩ := by unfold storeS; rw [hl, if_neg (by decide), if_neg k1]; rfl
          rw [hl, hS]
          exact store_whole P o m S k wd rg of_ w hs hm8 hon hwf hr hB (by simpa using hw.1) (by simpa using hw.2) hk0 hk1
        · have hl : storeE o m ⟨k, wd, rg, of_⟩ = 38 := by unfold storeE; rw [hE1, if_neg k0, if_neg k1, if_neg hw]
          have hS : storeS S o m ⟨k, wd, rg, of_⟩ = S := by unfold storeS; rw [hl]; rfl
          have hgo : Calls Try.prog 22 #[.pointer (some ⟨P, 0, none⟩), .int .i64 (o : Int), .int .i64 (m : Int), Value.agg #[.int .u8 k, .int .u64 wd, .int .i64 rg, .int .i64 of_]] w fun e w' => e = .returned (.int .i64 38) ∧ But [] w w' := by
            by_cases g1 : m = 8
            · exact store_part1 P o m S k wd rg of_ w hs hm8 hon hwf hr hB (by simp [g1]) (by simpa using fun h => hw ⟨by omega, h⟩) hk0 hk1
            · exact store_part0 P o m S k wd rg of_ w hs hm8 hon hwf hr hB (by omega) hk0 hk1
          refine hgo.mono ?_
          rintro e w' ⟨rfl, hb⟩
          rw [hl, hS]
          exact ⟨rfl, hB.but hb (by simp), hb.mono (by simp)⟩
  · have hl : storeE off n c = checkE off n (sizeB n && rightB c) := by unfold storeE; rw [if_pos hE]
    have hS : storeS S off n c = S := by unfold storeS; rw [hl, if_pos hE]
    refine (store_bad _ off n c _ w hwf (fun w1 hb => check_c P S off n (sizeB n && rightB c) w1 (hB.but hb (by simp)) (fun h => by rw [Bool.and_eq_true] at h; have := size_cases h.1; omega)) (by simpa using hE)).mono ?_
    rintro e w' ⟨rfl, hb⟩
    rw [hl, hS]
    exact ⟨rfl, hB.but hb (by simp), hb.mono (by simp)⟩
theorem Store_nil (off n : Int) (c : CV) (w : World) (hwf : (Lit.int .u8 c.k).wf = true) : Calls Try.prog 22 #[.pointer none, .int .i64 off, .int .i64 n, c.agg] w fun e w' => e = .returned (.int .i64 1) ∧ But [] w w' :=
  store_bad _ off n c 1 w hwf (fun w1 _ => check_nil off n _ w1) rfl
theorem Store_un (P : Nat) (S : Stk) (off n : Int) (c : CV) (w : World) (hwf : (Lit.int .u8 c.k).wf = true) (hB : Blk w P 57 833 (S.val false)) : Calls Try.prog 22 #[.pointer (some ⟨P, 0, none⟩), .int .i64 off, .int .i64 n, c.agg] w fun e w' => e = .returned (.int .i64 1) ∧ But [] w w' :=
  store_bad _ off n c 1 w hwf (fun w1 hb => check_un P S off n _ w1 (hB.but hb (by simp))) rfl
theorem setg_inv {S : Stk} (h : Inv S) {k : Nat} {c : CV} (hc : c.k ≠ 0) : Inv (setG S k c) where
  rng := fun j hj => by
    show 0 ≤ (if j = k then (0 : Int) else S.set j) ∧ (if j = k then (0 : Int) else S.set j) ≤ 255
    split
    · omega
    · exact h.rng j hj
  unset := fun j hj h1 => by
    show (if j = k then (0 : Int) else S.set j) = 0
    split
    · rfl
    · rename_i hne
      refine h.unset j hj ?_
      have h2 : (setG S k c).whole j = S.whole j := if_neg hne
      rwa [h2] at h1
  none := fun j hj h1 => by
    by_cases e : j = k
    · have h2 : (setG S k c).whole j = c := if_pos e
      rw [h2] at h1
      exact absurd h1 hc
    · have h2 : (setG S k c).whole j = S.whole j := if_neg e
      rw [h2] at h1 ⊢
      exact h.none j hj h1
  byt := fun a ha => by
    show 0 ≤ (if a / 8 = k then (0 : Int) else S.byte a) ∧ (if a / 8 = k then (0 : Int) else S.byte a) ≤ 255
    split
    · omega
    · exact h.byt a ha
theorem store_inv {S : Stk} (h : Inv S) (off n : Int) (c : CV) : Inv (storeS S off n c) := by
  unfold storeS
  by_cases h0 : storeE off n c = 0
  · rw [if_neg (by simp [h0])]
    have hE : checkE off n (sizeB n && rightB c) = 0 := by
      by_cases h1 : checkE off n (sizeB n && rightB c) = 0
      · exact h1
      · unfold storeE at h0
        rw [if_pos h1] at h0
        exact h0
    obtain ⟨hm, h1, h2⟩ := checkE_ok hE
    rw [Bool.and_eq_true] at hm
    obtain ⟨hn0, hn8⟩ := size_cases hm.1
    by_cases k1 : c.k = 1
    · rw [if_pos k1]
      have hs := wr_all h (wordBs_byte c.w n.toNat) (o := off.toNat) (by rw [wordBs_len]; omega)
      rw [wordBs_len] at hs
      exact hs.inv
    · rw [if_neg k1]
      refine setg_inv h (fun k0 => ?_)
      unfold storeE at h0
      rw [if_neg (by simp [hE]), if_pos k0] at h0
      cases h0
  · rw [if_pos h0]
    exact h
theorem write_inv {S : Stk} (h : Inv S) (off : Int) {bs : List Int} (hb : ByteL bs) : Inv (writeS S off bs) := by
  unfold writeS
  by_cases h0 : writeE off bs.length = 0
  · rw [if_pos h0]
    unfold writeE at h0
    obtain ⟨hm, h1, h2⟩ := checkE_ok h0
    have := of_decide_eq_true hm
    exact (wr_all h hb (o := off.toNat) (by omega)).inv
  · rw [if_neg h0]
    exact h
end Go.Proofs.Ytmaeiifhmngllaa.M
