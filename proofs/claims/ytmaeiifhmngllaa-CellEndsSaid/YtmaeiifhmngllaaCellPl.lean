/-
  A stack, plain: its bits; what bytes put into it make of it. No program.
-/
import Derived.Test.YtmaeiifhmngllaaCellBit
namespace Go.Proofs.Ytmaeiifhmngllaa.M
open Go.RowKit
set_option linter.unusedVariables false
set_option linter.unusedSectionVars false
set_option linter.unusedSimpArgs false
theorem nat_of {x : Int} (h : 0 ≤ x ∧ x ≤ 255) : ∃ m : Fin 256, x = (m.val : Int) := ⟨⟨x.toNat, by omega⟩, by show x = ((x.toNat : Nat) : Int); omega⟩
theorem or_bit {x : Int} (h : 0 ≤ x ∧ x ≤ 255) {f n q : Nat} (hf : f ≤ 7) (hn : f + n ≤ 8) (hq : q < 8) : bitB (bits .or .u8 x (maskI f n)) q = (decide (f ≤ q ∧ q < f + n) || bitB x q) := by
  obtain ⟨m, rfl⟩ := nat_of h
  exact or_bitF m ⟨f, by omega⟩ ⟨n, by omega⟩ hn ⟨q, hq⟩
theorem or_rng {x : Int} (h : 0 ≤ x ∧ x ≤ 255) {f n : Nat} (hf : f ≤ 7) (hn : f + n ≤ 8) : 0 ≤ bits .or .u8 x (maskI f n) ∧ bits .or .u8 x (maskI f n) ≤ 255 := by
  obtain ⟨m, rfl⟩ := nat_of h
  exact or_rngF m ⟨f, by omega⟩ ⟨n, by omega⟩ hn
theorem and_ok {x : Int} (h : 0 ≤ x ∧ x ≤ 255) {f n : Nat} (hf : f ≤ 7) (hn : f + n ≤ 8) : bits .and .u8 x (maskI f n) = maskI f n ↔ ∀ q, f ≤ q → q < f + n → bitB x q = true := by
  obtain ⟨m, rfl⟩ := nat_of h
  rw [and_okF m ⟨f, by omega⟩ ⟨n, by omega⟩ hn]
  exact ⟨fun k q h1 h2 => k ⟨q, by omega⟩ h1 h2, fun k q h1 h2 => k q.val h1 h2⟩
theorem bit_zero (q : Nat) : bitB 0 q = false := by simp [bitB]
/-- What holds of each stack. -/
structure Inv (S : Stk) : Prop where
  rng : ∀ k, k < 64 → 0 ≤ S.set k ∧ S.set k ≤ 255
  unset : ∀ k, k < 64 → (S.whole k).k ≠ 0 → S.set k = 0
  none : ∀ k, k < 64 → (S.whole k).k = 0 → S.whole k = c0
  byt : ∀ a, a < 512 → 0 ≤ S.byte a ∧ S.byte a ≤ 255
def Stk.bit (S : Stk) (a : Nat) : Bool := bitB (S.set (a / 8)) (a % 8)
theorem put_whole (S : Stk) (k f : Nat) (bs : List Int) (j : Nat) : (putG S k f bs).whole j = if j = k then (if (S.whole k).k = 0 then S.whole k else c0) else S.whole j := by
  show (clearG S k).whole j = _
  unfold clearG
  by_cases h : (S.whole k).k = 0
  · rw [if_pos h]
    by_cases e : j = k
    · subst e; rw [if_pos rfl, if_pos h]
    · rw [if_neg e]
  · rw [if_neg h]
    show (if j = k then c0 else S.whole j) = _
    by_cases e : j = k
    · rw [if_pos e, if_pos e, if_neg h]
    · rw [if_neg e, if_neg e]
theorem put_byte (S : Stk) (k f : Nat) (bs : List Int) (a : Nat) : (putG S k f bs).byte a = if 8 * k + f ≤ a ∧ a < 8 * k + f + bs.length then bs.getD (a - (8 * k + f)) 0 else if a / 8 = k ∧ (S.whole k).k ≠ 0 then 0 else S.byte a := by
  show (if 8 * k + f ≤ a then (bs[a - (8 * k + f)]?).getD ((clearG S k).byte a) else (clearG S k).byte a) = _
  have hc : (clearG S k).byte a = if a / 8 = k ∧ (S.whole k).k ≠ 0 then 0 else S.byte a := by
    unfold clearG
    by_cases h : (S.whole k).k = 0
    · rw [if_pos h, if_neg (fun x => x.2 h)]
    · rw [if_neg h]
      show (if a / 8 = k then 0 else S.byte a) = _
      by_cases e : a / 8 = k
      · rw [if_pos e, if_pos ⟨e, h⟩]
      · rw [if_neg e, if_neg (fun x => e x.1)]
  rw [← hc]
  by_cases h1 : 8 * k + f ≤ a
  · rw [if_pos h1]
    by_cases h2 : a < 8 * k + f + bs.length
    · rw [if_pos ⟨h1, h2⟩, List.getD_eq_getElem?_getD, List.getElem?_eq_getElem (by omega)]
      rfl
    · rw [if_neg (fun x => h2 x.2), List.getElem?_eq_none (by omega)]
      rfl
  · rw [if_neg h1, if_neg (fun x => h1 x.1)]
theorem put_set (S : Stk) (k f : Nat) (bs : List Int) (j : Nat) : (putG S k f bs).set j = if j = k then bits .or .u8 (if (S.whole k).k = 0 then S.set k else 0) (maskI f bs.length) else S.set j := by
  show (if j = k then bits .or .u8 ((clearG S k).set k) (maskI f bs.length) else (clearG S k).set j) = _
  unfold clearG
  by_cases h : (S.whole k).k = 0
  · rw [if_pos h, if_pos h]
  · rw [if_neg h, if_neg h]
    show (if j = k then bits .or .u8 (if k = k then 0 else S.set k) (maskI f bs.length) else if j = k then 0 else S.set j) = _
    by_cases e : j = k
    · rw [if_pos e, if_pos e, if_pos rfl]
    · rw [if_neg e, if_neg e, if_neg e]
theorem put_inv {S : Stk} (h : Inv S) {k f : Nat} {bs : List Int} (hk : k < 64) (hf : f ≤ 7) (hn : f + bs.length ≤ 8) (hb : ByteL bs) : Inv (putG S k f bs) := by
  have h0 : 0 ≤ (if (S.whole k).k = 0 then S.set k else 0) ∧ (if (S.whole k).k = 0 then S.set k else 0) ≤ 255 := by
    split
    · exact h.rng k hk
    · omega
  refine ⟨fun j hj => ?_, fun j hj hw => ?_, fun j hj hw => ?_, fun a ha => ?_⟩
  · rw [put_set]
    split
    · exact or_rng h0 hf hn
    · exact h.rng j hj
  · rw [put_whole] at hw
    rw [put_set]
    by_cases e : j = k
    · rw [if_pos e] at hw
      exfalso
      split at hw
      · exact hw (by assumption)
      · exact hw rfl
    · rw [if_neg e] at hw ⊢
      exact h.unset j hj hw
  · rw [put_whole] at hw ⊢
    by_cases e : j = k
    · rw [if_pos e] at hw ⊢
      split
      · rename_i h1
        exact h.none k hk h1
      · rfl
    · rw [if_neg e] at hw ⊢
      exact h.none j hj hw
  · rw [put_byte]
    split
    · rename_i h1
      rw [List.getD_eq_getElem?_getD, List.getElem?_eq_getElem (by omega)]
      exact hb _ (List.getElem_mem _)
    · split
      · omega
      · exact h.byt a ha
theorem put_bit {S : Stk} (h : Inv S) {k f : Nat} {bs : List Int} (hk : k < 64) (hf : f ≤ 7) (hn : f + bs.length ≤ 8) (a : Nat) (ha : a < 512) : (putG S k f bs).bit a = (decide (8 * k + f ≤ a ∧ a < 8 * k + f + bs.length) || S.bit a) := by
  unfold Stk.bit
  rw [put_set]
  by_cases e : a / 8 = k
  · rw [if_pos e]
    have h0 : (if (S.whole k).k = 0 then S.set k else 0) = S.set k := by
      split
      · rfl
      · rename_i h1; exact (h.unset k hk h1).symm
    rw [h0, or_bit (h.rng k hk) hf hn (Nat.mod_lt _ (by decide)), e]
    congr 1
    rw [decide_eq_decide]
    omega
  · rw [if_neg e, decide_eq_false (by omega), Bool.false_or]
end Go.Proofs.Ytmaeiifhmngllaa.M
