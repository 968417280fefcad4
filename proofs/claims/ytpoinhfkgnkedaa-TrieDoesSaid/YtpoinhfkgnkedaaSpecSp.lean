/-
  Plain: what is told of a make. No program.
-/
import Derived.Test.YtpoinhfkgnkedaaGA
namespace Go.Proofs.Ytpoinhfkgnkedaa.M
open Go.RowKit
set_option linter.unusedVariables false
set_option linter.unusedSectionVars false
set_option linter.unusedSimpArgs false
def inB (lo hi n : Int) : Bool := decide (lo ≤ n) && decide (n ≤ hi)
theorem inB_one (a n : Int) : inB a a n = (n == a) := by
  unfold inB
  by_cases h : n = a
  · subst h; simp
  · have : (n == a) = false := by simpa using h
    rw [this]
    simp only [Bool.and_eq_false_iff, decide_eq_false_iff_not]
    omega
structure RowB where
  (a b c d e f : Int)
def rowB (k : Int) : Option RowB := if k = 1 then some ⟨4, 4, 1, 1024, 1, 1024⟩ else if k = 2 then some ⟨1, 64, 1, 1024, 1, 1024⟩ else if k = 3 then some ⟨1, 64, 1, 1024, 1, 1024⟩ else if k = 4 then some ⟨5, 36, 1, 1024, 1, 1024⟩ else if k = 5 then some ⟨0, 0, 1, 1024, 1, 1024⟩ else if k = 6 then some ⟨0, 0, 1, 1024, 1, 1024⟩ else if k = 7 then some ⟨0, 0, 0, 0, 16, 16384⟩ else if k = 8 then some ⟨4, 4, 8, 8, 1, 64⟩ else none
def rowE (r : RowB) (key val ent : Int) : Int := if inB r.a r.b key && inB r.c r.d val && inB r.e r.f ent then 0 else 2
/-- What is told of a make: 0, 2 (no right part), 9 (no kind). -/
def specE (k key val ent : Int) : Int := match rowB k with
  | some r => rowE r key val ent
  | none => 9
theorem rowB1 : rowB 1 = some ⟨4, 4, 1, 1024, 1, 1024⟩ := rfl
theorem rowB2 : rowB 2 = some ⟨1, 64, 1, 1024, 1, 1024⟩ := rfl
theorem rowB3 : rowB 3 = some ⟨1, 64, 1, 1024, 1, 1024⟩ := rfl
theorem rowB4 : rowB 4 = some ⟨5, 36, 1, 1024, 1, 1024⟩ := rfl
theorem rowB5 : rowB 5 = some ⟨0, 0, 1, 1024, 1, 1024⟩ := rfl
theorem rowB6 : rowB 6 = some ⟨0, 0, 1, 1024, 1, 1024⟩ := rfl
theorem rowB7 : rowB 7 = some ⟨0, 0, 0, 0, 16, 16384⟩ := rfl
theorem rowB8 : rowB 8 = some ⟨4, 4, 8, 8, 1, 64⟩ := rfl
theorem rowB_none {k : Int} (h : ¬ (1 ≤ k ∧ k ≤ 8)) : rowB k = none := by
  unfold rowB
  repeat rw [if_neg (by omega)]
theorem kinds_of {k : Int} (h : 1 ≤ k ∧ k ≤ 8) : k = 1 ∨ k = 2 ∨ k = 3 ∨ k = 4 ∨ k = 5 ∨ k = 6 ∨ k = 7 ∨ k = 8 := by omega
/-- A ring's make, if it is right. -/
theorem specE_ring {key val ent : Int} (h : specE 7 key val ent = 0) : key = 0 ∧ val = 0 ∧ 16 ≤ ent ∧ ent ≤ 16384 := by
  simp only [specE, rowB7, rowE] at h
  split at h
  · rename_i hb
    simp only [inB, Bool.and_eq_true, decide_eq_true_eq] at hb
    omega
  · omega
end Go.Proofs.Ytpoinhfkgnkedaa.M
