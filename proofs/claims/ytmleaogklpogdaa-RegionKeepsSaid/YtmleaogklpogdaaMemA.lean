/-
  The contracts of a memory's small parts: New, known, has.
-/
import Derived.Test.YtmleaogklpogdaaClone
namespace Go.Proofs.Ytmleaogklpogdaa.M
open Go.RowKit
set_option linter.unusedVariables false
set_option linter.unusedSectionVars false
set_option linter.unusedSimpArgs false
theorem new (w : World) : Calls Try.prog 12 #[] w fun e w' => e = .returned (.pointer (some ⟨w.heap.size + 1, 0, none⟩)) ∧ w' = (w.alloc (.map #[] 0)).alloc (.cells #[.map (some w.heap.size), .int .i64 0] 27) := by
  have hmm := @run_makeMap Try.prog
  go_enter Try.func12, Try.ntmps12
  go_wp2
  go_ret
  exact ⟨rfl, rfl⟩
theorem known (B : Nat) (m : Option Nat) (w : World) (hm : w.cell? ⟨B, 0, none⟩ = some (.map m)) : Calls Try.prog 16 #[.pointer (some ⟨B, 0, none⟩)] w fun e w' => e = .returned (.bool m.isSome) ∧ w = w' := by
  have hq0 : ∀ (w : World), (binOp BinOp.neq 23 (.map none) (.map none)).run Try.prog w = .ok (.bool false) w := fun w => by kernel_rfl
  have hq1 : ∀ (x : Nat) (w : World), (binOp BinOp.neq 23 (.map (some x)) (.map none)).run Try.prog w = .ok (.bool true) w := fun x w => by kernel_rfl
  cases m
  all_goals
    go_enter Try.func16, Try.ntmps16
    go_wp2
    go_ret
    exact ⟨rfl, rfl⟩
def Has (off size n : Int) : Bool := decide (0 ≤ off) && decide (0 ≤ size) && decide (off ≤ n) && decide (size ≤ n - off)
theorem has (c : Nat) (a : Option Addr) (n cap : Nat) (off size : Int) (w : World) (hc : w.cell? ⟨c, 1, none⟩ = some (.slice a n cap)) (hn : n ≤ 1000000000000) (ho : -9223372036854775808 ≤ off ∧ off ≤ 9223372036854775807) (hs : -9223372036854775808 ≤ size ∧ size ≤ 9223372036854775807) :
    Calls Try.prog 27 #[.pointer (some ⟨c, 0, none⟩), .int .i64 off, .int .i64 size] w fun e w' => e = .returned (.bool (Has off size n)) ∧ w = w' := by
  obtain ⟨ho1, ho2⟩ := ho
  obtain ⟨hs1, hs2⟩ := hs
  by_cases h1 : 0 ≤ off <;> by_cases h2 : 0 ≤ size <;> by_cases h3 : off ≤ n <;> by_cases h4 : size ≤ n - off
  all_goals try (exfalso; omega)
  all_goals
    have HH : Hid (Has off size n = (decide (0 ≤ off) && decide (0 ≤ size) && decide (off ≤ n) && decide (size ≤ n - off))) := Lib.hid rfl
    simp only [h1, h2, h3, h4, decide_true, decide_false, Bool.and_true, Bool.and_false, Bool.true_and, Bool.false_and] at HH
    go_enter Try.func27, Try.ntmps27
    go_wp2
    go_ret
    rw [HH.out]
    exact ⟨rfl, rfl⟩
end Go.Proofs.Ytmleaogklpogdaa.M
