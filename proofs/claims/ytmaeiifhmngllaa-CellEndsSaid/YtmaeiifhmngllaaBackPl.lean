/-
  Plain: what is stored stands, whatever is done that touches none of its bytes.
-/
import Derived.Test.YtmaeiifhmngllaaBytesPl
namespace Go.Proofs.Ytmaeiifhmngllaa.M
open Go.RowKit
set_option linter.unusedVariables false
set_option linter.unusedSectionVars false
set_option linter.unusedSimpArgs false
/-- A word's bytes stand. -/
structure HoldW (S : Stk) (o n : Nat) (wd : Int) : Prop where
  inv : Inv S
  bit : ∀ i, i < n → S.bit (o + i) = true
  byte : ∀ i, i < n → S.byte (o + i) = byteOf wd i
  none : ∀ g, o < 8 * g + 8 → 8 * g < o + n → (S.whole g).k = 0
/-- A cell stands whole. -/
structure HoldP (S : Stk) (o : Nat) (c : CV) : Prop where
  inv : Inv S
  whole : S.whole (o / 8) = c
def Apart (o n o2 n2 : Nat) : Prop := o + n ≤ o2 ∨ o2 + n2 ≤ o
theorem HoldW.wr {S S' : Stk} {o n o2 : Nat} {wd : Int} {bs : List Int} (h : HoldW S o n wd) (hon : o + n ≤ 512) (hw : WrSpec S S' o2 bs.length bs.length (cntP o2 bs.length) bs) (ha : Apart o n o2 bs.length) : HoldW S' o n wd where
  inv := hw.inv
  bit := fun i hi => by rw [hw.bit _ (by omega), h.bit i hi, Bool.or_true]
  byte := fun i hi => by
    unfold Apart at ha
    rw [hw.byte, if_neg (by omega), if_neg (fun h2 => h2.2 (h.none _ (by omega) (by omega)))]
    exact h.byte i hi
  none := fun g h1 h2 => by
    have h3 := h.none g h1 h2
    rw [hw.whole, if_pos h3]
    split <;> exact h3
theorem HoldW.set {S : Stk} {o n o2 : Nat} {wd : Int} {c : CV} (h : HoldW S o n wd) (h8 : o2 % 8 = 0) (hc : c.k ≠ 0) (ha : Apart o n o2 8) : HoldW (setG S (o2 / 8) c) o n wd where
  inv := setg_inv h.inv hc
  bit := fun i hi => by
    unfold Apart at ha
    have h2 : (setG S (o2 / 8) c).bit (o + i) = S.bit (o + i) := by
      show bitB (if (o + i) / 8 = o2 / 8 then 0 else S.set ((o + i) / 8)) _ = _
      rw [if_neg (by omega)]
      rfl
    rw [h2]
    exact h.bit i hi
  byte := fun i hi => by
    unfold Apart at ha
    show (if (o + i) / 8 = o2 / 8 then 0 else S.byte (o + i)) = _
    rw [if_neg (by omega)]
    exact h.byte i hi
  none := fun g h1 h2 => by
    unfold Apart at ha
    show (if g = o2 / 8 then c else S.whole g).k = 0
    rw [if_neg (by omega)]
    exact h.none g h1 h2
theorem HoldP.wr {S S' : Stk} {o o2 : Nat} {c : CV} {bs : List Int} (h : HoldP S o c) (h8 : o % 8 = 0) (hw : WrSpec S S' o2 bs.length bs.length (cntP o2 bs.length) bs) (ha : Apart o 8 o2 bs.length) : HoldP S' o c where
  inv := hw.inv
  whole := by
    rw [hw.whole, if_neg ?_]
    · exact h.whole
    · rintro ⟨h1, h2⟩
      have h3 : o / 8 - o2 / 8 < cntP o2 bs.length := by omega
      have h4 := cnt_at.1 h3
      unfold atP at h4
      unfold Apart at ha
      omega
theorem HoldP.set {S : Stk} {o o2 : Nat} {c c2 : CV} (h : HoldP S o c) (h8 : o % 8 = 0) (h82 : o2 % 8 = 0) (hc : c2.k ≠ 0) (ha : Apart o 8 o2 8) : HoldP (setG S (o2 / 8) c2) o c where
  inv := setg_inv h.inv hc
  whole := by
    unfold Apart at ha
    show (if o / 8 = o2 / 8 then c2 else S.whole (o / 8)) = c
    rw [if_neg (by omega)]
    exact h.whole
/-- What a store or a write that goes well does. -/
theorem storeS_cases (S : Stk) (off n : Int) (c : CV) : storeS S off n c = S ∨ (storeE off n c = 0 ∧ 0 ≤ off ∧ off + n ≤ 512 ∧ 0 ≤ n ∧ n ≤ 8 ∧
    ((c.k = 1 ∧ storeS S off n c = wrL S off.toNat (wordBs c.w n.toNat) (List.range (cntP off.toNat n.toNat))) ∨ (c.k ≠ 0 ∧ c.k ≠ 1 ∧ n = 8 ∧ off % 8 = 0 ∧ storeS S off n c = setG S (off.toNat / 8) c))) := by
  by_cases h0 : storeE off n c = 0
  · right
    have hE : checkE off n (sizeB n && rightB c) = 0 := by
      by_cases h1 : checkE off n (sizeB n && rightB c) = 0
      · exact h1
      · have h2 := h0
        unfold storeE at h2
        rw [if_pos h1] at h2
        exact h2
    obtain ⟨hm, h1, h2⟩ := checkE_ok hE
    rw [Bool.and_eq_true] at hm
    obtain ⟨hn0, hn8⟩ := size_cases hm.1
    refine ⟨h0, h1, by omega, hn0, hn8, ?_⟩
    have h3 := h0
    unfold storeE at h3
    rw [if_neg (by simp [hE])] at h3
    by_cases k0 : c.k = 0
    · rw [if_pos k0] at h3; cases h3
    · rw [if_neg k0] at h3
      by_cases k1 : c.k = 1
      · refine .inl ⟨k1, ?_⟩
        unfold storeS
        rw [if_neg (by simp [h0]), if_pos k1]
      · rw [if_neg k1] at h3
        by_cases hw : n = 8 ∧ off % 8 = 0
        · refine .inr ⟨k0, k1, hw.1, hw.2, ?_⟩
          unfold storeS
          rw [if_neg (by simp [h0]), if_neg k1]
        · rw [if_neg hw] at h3; cases h3
  · left
    unfold storeS
    rw [if_pos h0]
theorem HoldW.store {S : Stk} {o n : Nat} {wd : Int} (h : HoldW S o n wd) (hon : o + n ≤ 512) (off2 n2 : Int) (c2 : CV) (ha : storeE off2 n2 c2 = 0 → (o : Int) + n ≤ off2 ∨ off2 + n2 ≤ o) : HoldW (storeS S off2 n2 c2) o n wd := by
  rcases storeS_cases S off2 n2 c2 with he | ⟨h0, h1, h2, h3, h4, ⟨k1, he⟩ | ⟨k0, k1, e8, h8, he⟩⟩
  · rw [he]; exact h
  · rw [he]
    have hs := wr_all h.inv (wordBs_byte c2.w n2.toNat) (o := off2.toNat) (by rw [wordBs_len]; omega)
    have h5 := h.wr hon hs (by have := ha h0; unfold Apart; rw [wordBs_len]; omega)
    rwa [wordBs_len] at h5
  · rw [he]
    exact h.set (by omega) k0 (by have := ha h0; unfold Apart; omega)
theorem HoldP.store {S : Stk} {o : Nat} {c : CV} (h : HoldP S o c) (ho : o % 8 = 0) (off2 n2 : Int) (c2 : CV) (ha : storeE off2 n2 c2 = 0 → (o : Int) + 8 ≤ off2 ∨ off2 + n2 ≤ o) : HoldP (storeS S off2 n2 c2) o c := by
  rcases storeS_cases S off2 n2 c2 with he | ⟨h0, h1, h2, h3, h4, ⟨k1, he⟩ | ⟨k0, k1, e8, h8, he⟩⟩
  · rw [he]; exact h
  · rw [he]
    have hs := wr_all h.inv (wordBs_byte c2.w n2.toNat) (o := off2.toNat) (by rw [wordBs_len]; omega)
    have h5 := h.wr ho hs (by have := ha h0; unfold Apart; rw [wordBs_len]; omega)
    rwa [wordBs_len] at h5
  · rw [he]
    exact h.set ho (by omega) k0 (by have := ha h0; unfold Apart; omega)
theorem HoldW.write {S : Stk} {o n : Nat} {wd : Int} (h : HoldW S o n wd) (hon : o + n ≤ 512) (off2 : Int) {bs : List Int} (hb : ByteL bs) (ha : writeE off2 bs.length = 0 → (o : Int) + n ≤ off2 ∨ off2 + bs.length ≤ o) : HoldW (writeS S off2 bs) o n wd := by
  unfold writeS
  by_cases h0 : writeE off2 bs.length = 0
  · rw [if_pos h0]
    have h1 := h0
    unfold writeE at h1
    obtain ⟨_, h2, h3⟩ := checkE_ok h1
    exact h.wr hon (wr_all h.inv hb (by omega)) (by have := ha h0; unfold Apart; omega)
  · rw [if_neg h0]; exact h
theorem HoldP.write {S : Stk} {o : Nat} {c : CV} (h : HoldP S o c) (ho : o % 8 = 0) (off2 : Int) {bs : List Int} (hb : ByteL bs) (ha : writeE off2 bs.length = 0 → (o : Int) + 8 ≤ off2 ∨ off2 + bs.length ≤ o) : HoldP (writeS S off2 bs) o c := by
  unfold writeS
  by_cases h0 : writeE off2 bs.length = 0
  · rw [if_pos h0]
    have h1 := h0
    unfold writeE at h1
    obtain ⟨_, h2, h3⟩ := checkE_ok h1
    exact h.wr ho (wr_all h.inv hb (by omega)) (by have := ha h0; unfold Apart; omega)
  · rw [if_neg h0]; exact h
/-! ### What is told of it. -/
theorem HoldW.on {S : Stk} {o n : Nat} {wd : Int} (h : HoldW S o n wd) : bitsOn S o n = true := bitsOn_iff.2 h.bit
theorem HoldW.row {S : Stk} {o n : Nat} {wd : Int} (h : HoldW S o n wd) : rowB S o n = wordBs wd n := by
  unfold rowB wordBs
  exact List.map_congr_left fun i hi => h.byte i (List.mem_range.1 hi)
theorem HoldW.at {S : Stk} {o n : Nat} {wd : Int} (h : HoldW S o n wd) : wholeAt S o n = false := by
  unfold wholeAt
  refine decide_eq_false (fun ⟨h1, h2, h3⟩ => h3 ?_)
  rw [show ((o : Int) / 8).toNat = o / 8 by omega]
  exact h.none _ (by omega) (by omega)
theorem check_yes {o n : Nat} (hon : o + n ≤ 512) : checkE o n true = 0 := by
  unfold checkE
  rw [if_pos rfl, if_pos (by omega)]
theorem HoldW.load {S : Stk} {o n : Nat} {wd : Int} (h : HoldW S o n wd) (hs : sizeB n = true) (hon : o + n ≤ 512) : loadE S o n = 0 ∧ loadV S o n = ⟨1, leV (wordBs wd n), 0, 0⟩ := by
  have h1 : loadE S o n = 0 := by
    unfold loadE
    rw [hs, if_neg (by simp [check_yes hon]), if_pos (.inr h.on)]
  refine ⟨h1, ?_⟩
  unfold loadV
  rw [h1, if_neg (by decide), if_neg (by rw [h.at]; decide)]
  exact congrArg (CV.mk 1 · 0 0) (congrArg leV h.row)
theorem HoldW.read {S : Stk} {o n : Nat} {wd : Int} (h : HoldW S o n wd) (hon : o + n ≤ 512) : readE S o n = 0 ∧ readRow S o n = wordBs wd n := by
  have hm : readMay (n : Int) = true := decide_eq_true (by omega)
  have h1 : readE S o n = 0 := by
    unfold readE
    rw [hm, if_neg (by simp [check_yes hon])]
    exact if_pos h.on
  refine ⟨h1, ?_⟩
  unfold readRow
  rw [if_pos h1]
  exact h.row
theorem HoldP.off {S : Stk} {o : Nat} {c : CV} (h : HoldP S o c) (hc : c.k ≠ 0) (ho : o % 8 = 0) (hon : o + 8 ≤ 512) {i : Nat} (hi : i < 8) : S.bit (o + i) = false := by
  unfold Stk.bit
  rw [show (o + i) / 8 = o / 8 by omega, h.inv.unset _ (by omega) (by rw [h.whole]; exact hc)]
  exact bit_zero _
theorem HoldP.load {S : Stk} {o : Nat} {c : CV} (h : HoldP S o c) (hc : c.k ≠ 0) (ho : o % 8 = 0) (hon : o + 8 ≤ 512) : loadE S o 8 = 0 ∧ loadV S o 8 = c := by
  have hw : wholeAt S o 8 = true := decide_eq_true ⟨rfl, by omega, by rw [show ((o : Int) / 8).toNat = o / 8 by omega, h.whole]; exact hc⟩
  have h1 : loadE S o 8 = 0 := by
    unfold loadE
    rw [show sizeB 8 = true by decide, if_neg (by rw [show (8 : Int) = ((8 : Nat) : Int) from rfl, check_yes hon]; simp), if_pos (.inl hw)]
  refine ⟨h1, ?_⟩
  unfold loadV
  rw [h1, if_neg (by decide), if_pos hw, show ((o : Int) / 8).toNat = o / 8 by omega]
  exact h.whole
theorem HoldP.load1 {S : Stk} {o : Nat} {c : CV} (h : HoldP S o c) (hc : c.k ≠ 0) (ho : o % 8 = 0) (hon : o + 8 ≤ 512) : loadE S ((o : Int) + 1) 1 = 30 := by
  unfold loadE
  rw [show sizeB 1 = true by decide, show ((o : Int) + 1) = ((o + 1 : Nat) : Int) by omega, if_neg (by rw [show (1 : Int) = ((1 : Nat) : Int) from rfl, check_yes (by omega)]; simp), if_neg ?_]
  rintro (h1 | h1)
  · have := of_decide_eq_true h1
    omega
  · have h2 := bitsOn_iff.1 h1 0 (by decide)
    rw [show ((o + 1 : Nat) : Int).toNat + 0 = o + 1 from rfl, h.off hc ho hon (by decide)] at h2
    cases h2
theorem HoldP.read {S : Stk} {o : Nat} {c : CV} (h : HoldP S o c) (hc : c.k ≠ 0) (ho : o % 8 = 0) (hon : o + 8 ≤ 512) : readE S o 8 = 30 := by
  unfold readE
  rw [show readMay 8 = true by decide, if_neg (by rw [show (8 : Int) = ((8 : Nat) : Int) from rfl, check_yes hon]; simp), if_neg ?_]
  intro h1
  have h2 := bitsOn_iff.1 h1 0 (by decide)
  rw [show ((o : Nat) : Int).toNat + 0 = o + 0 from rfl, h.off hc ho hon (by decide)] at h2
  cases h2
/-! ### At first. -/
theorem s0_load (off n : Int) : loadE S0 off n ≠ 0 := by
  unfold loadE
  by_cases hE : checkE off n (sizeB n) = 0
  · rw [if_neg (by simp [hE]), if_neg ?_]
    · decide
    · rintro (h1 | h1)
      · exact (of_decide_eq_true h1).2.2 rfl
      · have hs := (checkE_ok hE).1
        have hn : 0 < n.toNat := by
          unfold sizeB at hs
          have := of_decide_eq_true hs
          omega
        have h2 := bitsOn_iff.1 h1 0 hn
        rw [s0_bit] at h2
        cases h2
  · rw [if_pos hE]
    exact hE
theorem first_hold (o n : Nat) (c : CV) (h : storeE o n c = 0) : o + n ≤ 512 ∧ sizeB n = true ∧ ((c.k = 1 ∧ HoldW (storeS S0 o n c) o n c.w) ∨ (c.k ≠ 0 ∧ c.k ≠ 1 ∧ n = 8 ∧ o % 8 = 0 ∧ HoldP (storeS S0 o n c) o c)) := by
  have hE : checkE o n (sizeB n && rightB c) = 0 := by
    by_cases h1 : checkE o n (sizeB n && rightB c) = 0
    · exact h1
    · have h2 := h
      unfold storeE at h2
      rw [if_pos h1] at h2
      exact h2
  obtain ⟨hm, h1, h2⟩ := checkE_ok hE
  rw [Bool.and_eq_true] at hm
  have hinv := store_inv s0_inv o n c
  refine ⟨by omega, hm.1, ?_⟩
  rcases storeS_cases S0 o n c with he | ⟨_, _, _, _, _, ⟨k1, he⟩ | ⟨k0, k1, e8, h8, he⟩⟩
  · exfalso
    have h3 := s0_load o n
    have hk : c.k ≠ 0 := fun k0 => by
      unfold storeE at h
      rw [if_neg (by simp [hE]), if_pos k0] at h
      cases h
    have hw : (storeS S0 o n c) = S0 := he
    unfold storeS at hw
    rw [if_neg (by simp [h])] at hw
    have hn : 0 < n := by
      have h4 := hm.1
      unfold sizeB at h4
      have := of_decide_eq_true h4
      omega
    by_cases k1 : c.k = 1
    · rw [if_pos k1] at hw
      have hs := wrote (wordBs_byte c.w n) (o := o) (by rw [wordBs_len]; omega)
      rw [wordBs_len] at hs
      have h5 := hs.bit o (by omega)
      rw [show ((o : Int).toNat) = o from rfl, show ((n : Int).toNat) = n from rfl] at hw
      rw [hw, s0_bit, decide_eq_true (by omega)] at h5
      cases h5
    · rw [if_neg k1] at hw
      have h5 := congrFun (congrArg Stk.whole hw) (o / 8)
      rw [show ((o : Int).toNat) = o from rfl] at h5
      have h6 : (setG S0 (o / 8) c).whole (o / 8) = c := if_pos rfl
      rw [h6] at h5
      exact hk (by rw [h5]; rfl)
  · refine .inl ⟨k1, ?_⟩
    rw [he, show ((o : Int).toNat) = o from rfl, show ((n : Int).toNat) = n from rfl]
    have hs := wrote (wordBs_byte c.w n) (o := o) (by rw [wordBs_len]; omega)
    rw [wordBs_len] at hs
    refine ⟨hs.inv, fun i hi => ?_, fun i hi => ?_, fun g _ _ => ?_⟩
    · rw [hs.bit _ (by omega), decide_eq_true (by omega)]; rfl
    · rw [hs.byte, if_pos (by omega), show o + i - o = i by omega, List.getD_eq_getElem?_getD]
      unfold wordBs
      rw [List.getElem?_map, List.getElem?_range hi]
      rfl
    · rw [hs.whole]
      simp [S0, c0]
  · refine .inr ⟨k0, k1, by omega, by omega, ?_⟩
    rw [he] at hinv ⊢
    rw [show ((o : Int).toNat) = o from rfl] at hinv ⊢
    exact ⟨hinv, if_pos rfl⟩
theorem leV_word : ∀ (n : Nat) (X : Nat), leV (wordBs X n) = ((X % 256 ^ n : Nat) : Int)
  | 0, X => by rw [Nat.pow_zero, Nat.mod_one]; rfl
  | n + 1, X => by
    have h1 : wordBs (X : Int) (n + 1) = ((X % 256 : Nat) : Int) :: wordBs ((X / 256 : Nat) : Int) n := by
      unfold wordBs
      rw [List.range_succ_eq_map, List.map_cons, List.map_map]
      congr 1
      · unfold byteOf; simp
      · refine List.map_congr_left fun j _ => ?_
        show byteOf X (j + 1) = byteOf ((X / 256 : Nat) : Int) j
        unfold byteOf
        have h2 : (X : Int) / 2 ^ (8 * (j + 1)) = (((X / 256 : Nat) : Int)) / 2 ^ (8 * j) := by
          have h3 : X / 2 ^ (8 * (j + 1)) = X / 256 / 2 ^ (8 * j) := by
            rw [Nat.div_div_eq_div_mul, show 8 * (j + 1) = 8 + 8 * j by omega, Nat.pow_add]
          exact_mod_cast congrArg (fun z : Nat => (z : Int)) h3
        rw [h2]
    rw [h1, leV_cons, leV_word n, Nat.pow_succ, Nat.mul_comm, Nat.mod_mul]
    generalize X / 256 % 256 ^ n = A
    omega
end Go.Proofs.Ytmaeiifhmngllaa.M
