/-
  Plain: what is held, deed by deed.
-/
import Derived.Test.YtmaeiifhmngllaaBackPl
namespace Go.Proofs.Ytmaeiifhmngllaa.M
open Go.RowKit
set_option linter.unusedVariables false
set_option linter.unusedSectionVars false
set_option linter.unusedSimpArgs false
def skipB (o n off2 many : Int) : Bool := decide (off2 < 1099511627776) && (decide (-1099511627776 < off2) && (decide (many < 1099511627776) && (decide (off2 < o + n) && decide (o < wrap64 (off2 + many)))))
theorem skip_no {o n off2 many : Int} (h : skipB o n off2 many = false) (h1 : 0 ≤ off2) (h2 : off2 + many ≤ 512) (h3 : 0 ≤ many) : o + n ≤ off2 ∨ off2 + many ≤ o := by
  unfold skipB at h
  have hw : wrap64 (off2 + many) = off2 + many := by rw [wrap64]; omega
  rw [hw, decide_eq_true (show off2 < 1099511627776 by omega), decide_eq_true (show -1099511627776 < off2 by omega), decide_eq_true (show many < 1099511627776 by omega)] at h
  simp only [Bool.true_and, Bool.and_eq_false_iff, decide_eq_false_iff_not] at h
  omega
theorem storeE_ok {off n : Int} {c : CV} (h : storeE off n c = 0) : 0 ≤ off ∧ off + n ≤ 512 ∧ 0 ≤ n := by
  have hE : checkE off n (sizeB n && rightB c) = 0 := by
    by_cases h1 : checkE off n (sizeB n && rightB c) = 0
    · exact h1
    · unfold storeE at h
      rw [if_pos h1] at h
      exact h
  obtain ⟨hm, h1, h2⟩ := checkE_ok hE
  rw [Bool.and_eq_true] at hm
  have := size_cases hm.1
  exact ⟨h1, by omega, this.1⟩
def Held (S : Stk) (o n : Nat) (c : CV) : Prop := (c.k = 1 ∧ HoldW S o n c.w) ∨ (c.k ≠ 0 ∧ c.k ≠ 1 ∧ n = 8 ∧ o % 8 = 0 ∧ HoldP S o c)
theorem Held.inv {S : Stk} {o n : Nat} {c : CV} (h : Held S o n c) : Inv S := by
  rcases h with ⟨_, h⟩ | ⟨_, _, _, _, h⟩
  · exact h.inv
  · exact h.inv
theorem Held.store {S : Stk} {o n : Nat} {c : CV} (h : Held S o n c) (hon : o + n ≤ 512) (off2 n2 : Int) (c2 : CV) (hk : skipB o n off2 n2 = false) : Held (storeS S off2 n2 c2) o n c := by
  rcases h with ⟨k1, h⟩ | ⟨k0, k1, h8, ho, h⟩
  · exact .inl ⟨k1, h.store hon off2 n2 c2 (fun h0 => by obtain ⟨e1, e2, e3⟩ := storeE_ok h0; exact skip_no hk e1 e2 e3)⟩
  · subst h8
    exact .inr ⟨k0, k1, rfl, ho, h.store ho off2 n2 c2 (fun h0 => by obtain ⟨e1, e2, e3⟩ := storeE_ok h0; exact skip_no hk e1 e2 e3)⟩
theorem Held.write {S : Stk} {o n : Nat} {c : CV} (h : Held S o n c) (hon : o + n ≤ 512) (off2 : Int) {bs : List Int} (hb : ByteL bs) (hk : skipB o n off2 bs.length = false) : Held (writeS S off2 bs) o n c := by
  have hz : writeE off2 bs.length = 0 → 0 ≤ off2 ∧ off2 + bs.length ≤ 512 := fun h0 => by
    unfold writeE at h0
    obtain ⟨_, h2, h3⟩ := checkE_ok h0
    omega
  rcases h with ⟨k1, h⟩ | ⟨k0, k1, h8, ho, h⟩
  · exact .inl ⟨k1, h.write hon off2 hb (fun h0 => by obtain ⟨e1, e2⟩ := hz h0; exact skip_no hk e1 e2 (by omega))⟩
  · subst h8
    exact .inr ⟨k0, k1, rfl, ho, h.write ho off2 hb (fun h0 => by obtain ⟨e1, e2⟩ := hz h0; exact skip_no hk e1 e2 (by omega))⟩
end Go.Proofs.Ytmaeiifhmngllaa.M
