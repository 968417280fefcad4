/-
  A stack, plain: what each of its groups holds; what its functions do to it. No program.
-/
import Derived.Test.YtmaeiifhmngllaaBlk
namespace Go.Proofs.Ytmaeiifhmngllaa.M
open Go.RowKit
set_option linter.unusedVariables false
set_option linter.unusedSectionVars false
set_option linter.unusedSimpArgs false
/-- A cell. -/
structure CV where
  k : Int
  w : Int
  r : Int
  o : Int
deriving DecidableEq
def CV.agg (c : CV) : Value := .agg #[.int .u8 c.k, .int .u64 c.w, .int .i64 c.r, .int .i64 c.o]
def CV.at (c : CV) : Nat → Value
  | 0 => .int .u8 c.k
  | 1 => .int .u64 c.w
  | 2 => .int .i64 c.r
  | _ => .int .i64 c.o
def c0 : CV := ⟨0, 0, 0, 0⟩
/-- A stack: what a group holds whole, each byte, the bits of those that are set. -/
structure Stk where
  whole : Nat → CV
  byte : Nat → Int
  set : Nat → Int
def Stk.val (S : Stk) (made : Bool) (i : Nat) : Value :=
  if i = 832 then .bool made
  else if i % 13 < 4 then (S.whole (i / 13)).at (i % 13)
  else if i % 13 < 12 then .int .u8 (S.byte (8 * (i / 13) + (i % 13 - 4)))
  else .int .u8 (S.set (i / 13))
theorem val_whole (S : Stk) (made : Bool) {k q : Nat} (hk : k < 64) (hq : q < 4) : S.val made (k * 13 + q) = (S.whole k).at q := by
  unfold Stk.val
  rw [if_neg (by omega), show (k * 13 + q) % 13 = q by omega, show (k * 13 + q) / 13 = k by omega, if_pos hq]
theorem val_byte (S : Stk) (made : Bool) {k q : Nat} (hk : k < 64) (hq : q < 8) : S.val made (k * 13 + (4 + q)) = .int .u8 (S.byte (8 * k + q)) := by
  unfold Stk.val
  rw [if_neg (by omega), show (k * 13 + (4 + q)) % 13 = 4 + q by omega, show (k * 13 + (4 + q)) / 13 = k by omega, if_neg (by omega), if_pos (by omega), show 4 + q - 4 = q by omega]
theorem val_set (S : Stk) (made : Bool) {k : Nat} (hk : k < 64) : S.val made (k * 13 + 12) = .int .u8 (S.set k) := by
  unfold Stk.val
  rw [if_neg (by omega), show (k * 13 + 12) % 13 = 12 by omega, show (k * 13 + 12) / 13 = k by omega, if_neg (by omega), if_neg (by omega)]
theorem val_made (S : Stk) (made : Bool) : S.val made 832 = .bool made := by
  unfold Stk.val
  rw [if_pos rfl]
/-- A group's place, or the last cell. -/
theorem place_cases {i : Nat} (h : i < 833) : i = 832 ∨ ∃ k, k < 64 ∧ ((∃ q, q < 4 ∧ i = k * 13 + q) ∨ (∃ q, q < 8 ∧ i = k * 13 + (4 + q)) ∨ i = k * 13 + 12) := by
  by_cases e : i = 832
  · exact .inl e
  · refine .inr ⟨i / 13, by omega, ?_⟩
    by_cases h1 : i % 13 < 4
    · exact .inl ⟨i % 13, h1, by omega⟩
    · by_cases h2 : i % 13 < 12
      · exact .inr (.inl ⟨i % 13 - 4, by omega, by omega⟩)
      · exact .inr (.inr (by omega))
def maskI (from_ many : Nat) : Int := (2 ^ many - 1) % 256 * 2 ^ from_ % 256
def u8s (l : List Int) : List Value := l.map (.int .u8)
theorem u8s_len (l : List Int) : (u8s l).length = l.length := by simp [u8s]
theorem u8s_at {l : List Int} {i : Nat} {x : Int} (h : l[i]? = some x) : (u8s l)[i]? = some (.int .u8 x) := by simp [u8s, h]
def ByteL (l : List Int) : Prop := ∀ x ∈ l, 0 ≤ x ∧ x ≤ 255
/-- A group without what it held whole. -/
def clearG (S : Stk) (k : Nat) : Stk := if (S.whole k).k = 0 then S else
  { whole := fun j => if j = k then c0 else S.whole j, byte := fun a => if a / 8 = k then 0 else S.byte a, set := fun j => if j = k then 0 else S.set j }
/-- Bytes of a group are set. -/
def putG (S : Stk) (k from_ : Nat) (bs : List Int) : Stk :=
  { clearG S k with
    byte := fun a => if 8 * k + from_ ≤ a then (bs[a - (8 * k + from_)]?).getD ((clearG S k).byte a) else (clearG S k).byte a
    set := fun j => if j = k then bits .or .u8 ((clearG S k).set k) (maskI from_ bs.length) else (clearG S k).set j }
theorem clear_val (S : Stk) (made : Bool) {k : Nat} (hk : k < 64) (hw : (S.whole k).k ≠ 0) : ∀ i, i < 833 → (upd (upd (upd (upd (upd (upd (upd (upd (upd (upd (upd (upd (upd (S.val made) (k * 13) (.int .u8 0)) (k * 13 + 1) (.int .u64 0)) (k * 13 + 2) (.int .i64 0)) (k * 13 + 3) (.int .i64 0)) (k * 13 + 4) (.int .u8 0)) (k * 13 + 5) (.int .u8 0)) (k * 13 + 6) (.int .u8 0)) (k * 13 + 7) (.int .u8 0)) (k * 13 + 8) (.int .u8 0)) (k * 13 + 9) (.int .u8 0)) (k * 13 + 10) (.int .u8 0)) (k * 13 + 11) (.int .u8 0)) (k * 13 + 12) (.int .u8 0)) i = (clearG S k).val made i := by
  intro i hi
  have hcl : clearG S k = { whole := fun j => if j = k then c0 else S.whole j, byte := fun a => if a / 8 = k then 0 else S.byte a, set := fun j => if j = k then 0 else S.set j } := if_neg hw
  rw [hcl]
  rcases place_cases hi with rfl | ⟨j, hj, ⟨q, hq, rfl⟩ | ⟨q, hq, rfl⟩ | rfl⟩
  · rw [val_made]
    simp only [upd]
    repeat rw [if_neg (by omega)]
    exact val_made S made
  · rw [val_whole _ _ hj hq]
    show _ = (if j = k then c0 else S.whole j).at q
    by_cases e : j = k
    · subst e
      rw [if_pos rfl]
      match q, hq with
      | 0, _ => simp [upd, c0, CV.at]
      | 1, _ => simp [upd, c0, CV.at]
      | 2, _ => simp [upd, c0, CV.at]
      | 3, _ => simp [upd, c0, CV.at]
    · rw [if_neg e]
      simp only [upd]
      repeat rw [if_neg (by omega)]
      exact val_whole S made hj hq
  · rw [val_byte _ _ hj hq]
    show _ = Value.int .u8 (if (8 * j + q) / 8 = k then 0 else S.byte (8 * j + q))
    by_cases e : j = k
    · subst e
      rw [if_pos (by omega)]
      match q, hq with
      | 0, _ => simp [upd]
      | 1, _ => simp [upd]
      | 2, _ => simp [upd]
      | 3, _ => simp [upd]
      | 4, _ => simp [upd]
      | 5, _ => simp [upd]
      | 6, _ => simp [upd]
      | 7, _ => simp [upd]
    · rw [if_neg (by omega)]
      simp only [upd]
      repeat rw [if_neg (by omega)]
      exact val_byte S made hj hq
  · rw [val_set _ _ hj]
    show _ = Value.int .u8 (if j = k then 0 else S.set j)
    by_cases e : j = k
    · subst e
      rw [if_pos rfl]
      simp [upd]
    · rw [if_neg e]
      simp only [upd]
      repeat rw [if_neg (by omega)]
      exact val_set S made hj
theorem clear_id (S : Stk) {k : Nat} (hw : (S.whole k).k = 0) : clearG S k = S := if_pos hw
theorem put_val (S : Stk) (made : Bool) {k f : Nat} {bs : List Int} (hk : k < 64) (hf : f + bs.length ≤ 8) : ∀ i, i < 833 → upd (updL ((clearG S k).val made) (k * 13 + (4 + f)) (u8s bs)) (k * 13 + 12) (.int .u8 (bits .or .u8 ((clearG S k).set k) (maskI f bs.length))) i = (putG S k f bs).val made i := by
  intro i hi
  have hlen : (u8s bs).length = bs.length := u8s_len bs
  rcases place_cases hi with rfl | ⟨j, hj, ⟨q, hq, rfl⟩ | ⟨q, hq, rfl⟩ | rfl⟩
  · rw [upd_out (by omega), updL_out (by omega), val_made, val_made]
  · rw [upd_out (by omega), updL_out (by omega), val_whole _ _ hj hq, val_whole _ _ hj hq]
    rfl
  · rw [upd_out (by omega), val_byte _ _ hj hq]
    show _ = Value.int .u8 (if 8 * k + f ≤ 8 * j + q then (bs[8 * j + q - (8 * k + f)]?).getD ((clearG S k).byte (8 * j + q)) else (clearG S k).byte (8 * j + q))
    by_cases e : j = k ∧ f ≤ q ∧ q < f + bs.length
    · obtain ⟨rfl, h1, h2⟩ := e
      obtain ⟨x, hx⟩ : ∃ x, bs[q - f]? = some x := ⟨_, List.getElem?_eq_getElem (by omega)⟩
      rw [show j * 13 + (4 + q) = j * 13 + (4 + f) + (q - f) by omega, updL_in (u8s_at hx), if_pos (by omega), show 8 * j + q - (8 * j + f) = q - f by omega, hx]
      rfl
    · rw [updL_out (by omega), val_byte _ _ hj hq]
      by_cases h1 : 8 * k + f ≤ 8 * j + q
      · rw [if_pos h1, List.getElem?_eq_none (by omega)]
        rfl
      · rw [if_neg h1]
  · rw [val_set _ _ hj]
    show _ = Value.int .u8 (if j = k then bits .or .u8 ((clearG S k).set k) (maskI f bs.length) else (clearG S k).set j)
    by_cases e : j = k
    · subst e
      rw [upd_in, if_pos rfl]
    · rw [upd_out (by omega), updL_out (by omega), val_set _ _ hj, if_neg e]
end Go.Proofs.Ytmaeiifhmngllaa.M
