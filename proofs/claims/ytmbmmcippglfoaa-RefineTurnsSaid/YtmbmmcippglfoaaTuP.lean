/-
  Plain: what RefineTurns says of what a jump tells.
-/
import Derived.Test.YtmbmmcippglfoaaBrA
namespace Go.Proofs.Ytmbmmcippglfoaa.M
open Go.RowKit
set_option linter.unusedVariables false
set_option linter.unusedSectionVars false
set_option linter.unusedSimpArgs false
theorem turn_opp {p : Nat} {wide tk : Bool} {a b : Sc} (h : opp p ≠ 0) (h1 : p ≠ 64) : branchT (opp p) wide a b (!tk) = branchT p wide a b tk := by
  have h2 := opp_opp p h h1
  have h3 : p ≠ 0 := fun e => by subst e; exact h rfl
  unfold branchT
  rw [h2]
  have e1 : (opp p != 0) = true := by simpa using h
  have e2 : (p != 0) = true := by simpa using h3
  rw [e1, e2]
  cases tk <;> rfl
theorem turn_abt {p : Nat} {wide tk : Bool} {a b : Sc} (h : opp p ≠ 0) : branchT (abt p) wide b a tk = (branchT p wide a b tk).map fun x => (x.2, x.1) := by
  have h0 : ∀ n, abt n = 0 → n = 0 := fun n hn => by
    unfold abt at hn
    split at hn <;> first | omega | exact hn
  have e1 : (opp p != 0) = true := by simpa using h
  have e2 : (opp (abt p) != 0) = true := by
    rw [opp_abt]
    simpa using fun e => h (h0 _ e)
  unfold branchT
  rw [e1, e2, Nat.max_comm b.s.hi a.s.hi, Bool.and_comm (rightB b) (rightB a)]
  split
  · split
    · rfl
    · have e3 : (if tk then abt p else opp (abt p)) = abt (if tk then p else opp p) := by cases tk <;> simp [opp_abt]
      rw [e3]
      exact hold_abt _ a b
  · rfl
theorem turn_less {p : Nat} {wide tk : Bool} {a b s : Sc} (ha : Rg a) (hb : Rg b) (hs : Rg s) (hl : leqT s a = true) (hr : rightB b = true) (hn : branchT p wide a b tk = none) : branchT p wide s b tk = none := by
  obtain ⟨fs, fa, hle⟩ := (leq_iff hs ha).1 hl
  have fb := (right_iff hb).1 hr
  cases hx : branchT p wide s b tk with
  | none => rfl
  | some x =>
    exfalso
    unfold branchT at hn hx
    rw [fs.right, hr, Bool.true_and] at hx
    rw [fa.right, hr, Bool.true_and] at hn
    cases hp : (opp p != 0) with
    | false => rw [hp] at hx; simp at hx
    | true =>
      rw [hp] at hx hn
      simp only [Bool.and_true, Bool.and_self, if_true] at hx hn
      have hh := hle.s.hi
      by_cases c1 : (!wide && decide (2147483648 ≤ max a.s.hi b.s.hi)) = true
      · rw [if_pos c1] at hn; cases hn
      · rw [if_neg c1] at hn
        have c2 : ¬ (!wide && decide (2147483648 ≤ max s.s.hi b.s.hi)) = true := fun c => c1 (by
          simp only [Bool.and_eq_true, decide_eq_true_eq] at c ⊢
          exact ⟨c.1, by omega⟩)
        rw [if_neg c2] at hx
        obtain ⟨c, d⟩ := x
        obtain ⟨c', d', e', _⟩ := hold_mono fs fb fa fb hle (Le.refl _) hx
        rw [hn] at e'; cases e'
def oneA (i : Nat) : Nat := match i with | 0 => 16 | 1 => 32 | 2 => 48 | 3 => 96 | 4 => 112 | _ => 64
def othA (i : Nat) : Nat := match i with | 0 => 80 | 1 => 176 | 2 => 160 | 3 => 208 | 4 => 192 | _ => 0
def abtA (i : Nat) : Nat := match i with | 0 => 16 | 1 => 160 | 2 => 176 | 3 => 192 | 4 => 208 | _ => 64
theorem six_ops {i : Nat} (h : i < 6) : opp (oneA i) ≠ 0 ∧ oneA i < 256 ∧ othA i < 256 ∧ abtA i < 256 ∧ abtA i = abt (oneA i) ∧ (othA i = 0 ∨ (othA i = opp (oneA i) ∧ oneA i ≠ 64 ∧ othA i ≠ 0)) := by
  match i, h with
  | 0, _ => decide
  | 1, _ => decide
  | 2, _ => decide
  | 3, _ => decide
  | 4, _ => decide
  | 5, _ => decide
theorem six_cells {W : World} {k i : Nat} {t : TypeId} {f : Nat → Nat} (h : W.heap[k]? = some (.cells #[.int .u8 (f 0 : Int), .int .u8 (f 1 : Int), .int .u8 (f 2 : Int), .int .u8 (f 3 : Int), .int .u8 (f 4 : Int), .int .u8 (f 5 : Int)] t)) (hi : i < 6) : W.cell? ⟨k, i, none⟩ = some (.int .u8 (f i : Int)) := by
  match i, hi with
  | 0, _ => exact cl_of h 0
  | 1, _ => exact cl_of h 1
  | 2, _ => exact cl_of h 2
  | 3, _ => exact cl_of h 3
  | 4, _ => exact cl_of h 4
  | 5, _ => exact cl_of h 5
end Go.Proofs.Ytmbmmcippglfoaa.M
