/-
  A ring as it lies: its block, its links one behind the other, the rows of each; the contracts of known, put, take.
-/
import Derived.Test.YtlajffbjkgedhaaClone
import Derived.Test.YtlajffbjkgedhaaProg
namespace Go.Proofs.Ytlajffbjkgedhaa.M
open Go.RowKit
set_option linter.unusedVariables false
set_option linter.unusedSectionVars false
set_option linter.unusedSimpArgs false
theorem cell_of {w : World} {k : Nat} {cs : Array Value} {t : TypeId} (h : w.heap[k]? = some (.cells cs t)) (j : Nat) : w.cell? ⟨k, j, none⟩ = cs[j]? := by
  unfold World.cell?; rw [h]; rfl
theorem frozen_of {w : World} {k : Nat} {cs : Array Value} {t : TypeId} (h : w.heap[k]? = some (.cells cs t)) (j : Nat) : w.frozen? ⟨k, j, none⟩ = false := by
  unfold World.frozen?; rw [h]; simp
/-- A link: its block, its row's slice, the row. -/
structure Lk where
  blk : Nat
  sl : Value
  bs : List Value
def lkPtr : List Lk → Option Addr
  | [] => none
  | x :: _ => some ⟨x.blk, 0, none⟩
/-- The links, one behind the other. -/
def Links (w : World) : List Lk → Prop
  | [] => True
  | x :: l => w.heap[x.blk]? = some (.cells #[x.sl, .pointer (lkPtr l)] 105) ∧ Own w x.sl x.bs ∧ Links w l
theorem known_yes (R : Nat) (f l : Value) (n : Int) (w : World) (hR : w.heap[R]? = some (.cells #[f, l, .int .i64 n] 52)) (hn : 0 < n) :
    Calls Try.prog 26 #[.pointer (some ⟨R, 0, none⟩)] w fun e w' => e = .returned (.bool true) ∧ w = w' := by
  have c2 : w.cell? ⟨R, 2, none⟩ = some (.int .i64 n) := cell_of hR 2
  go_enter Try.func26, Try.ntmps26
  go_wp2
  go_ret
  exact ⟨rfl, rfl⟩
theorem known_nil (w : World) : Calls Try.prog 26 #[.pointer none] w fun e w' => e = .returned (.bool false) ∧ w = w' := by
  go_enter Try.func26, Try.ntmps26
  go_wp2
  go_ret
  exact ⟨rfl, rfl⟩
theorem known_no (R : Nat) (f l : Value) (w : World) (hR : w.heap[R]? = some (.cells #[f, l, .int .i64 0] 52)) :
    Calls Try.prog 26 #[.pointer (some ⟨R, 0, none⟩)] w fun e w' => e = .returned (.bool false) ∧ w = w' := by
  have c2 : w.cell? ⟨R, 2, none⟩ = some (.int .i64 0) := cell_of hR 2
  go_enter Try.func26, Try.ntmps26
  go_wp2
  go_ret
  exact ⟨rfl, rfl⟩
theorem take_none (R : Nat) (l s : Value) (w : World) (hR : w.heap[R]? = some (.cells #[.pointer none, l, s] 52)) :
    Calls Try.prog 27 #[.pointer (some ⟨R, 0, none⟩)] w fun e w' => e = .returned (.tuple #[.slice none 0 0, .bool false]) ∧ w = w' := by
  have c0 : w.cell? ⟨R, 0, none⟩ = some (.pointer none) := cell_of hR 0
  go_enter Try.func27, Try.ntmps27
  go_wp2
  go_ret2
  exact ⟨rfl, rfl⟩
theorem take_some (R b : Nat) (a : Option Addr) (n c : Nat) (q : Option Addr) (l s : Value) (w : World) (hR : w.heap[R]? = some (.cells #[.pointer (some ⟨b, 0, none⟩), l, s] 52)) (hb : w.heap[b]? = some (.cells #[.slice a n c, .pointer q] 105)) (hne : b ≠ R) :
    Calls Try.prog 27 #[.pointer (some ⟨R, 0, none⟩)] w fun e w' => e = .returned (.tuple #[.slice a n c, .bool true]) ∧ w.setCell ⟨R, 0, none⟩ (.pointer q) = w' := by
  have c0 : w.cell? ⟨R, 0, none⟩ = some (.pointer (some ⟨b, 0, none⟩)) := cell_of hR 0
  have f0 := frozen_of hR 0
  have d0 : w.cell? ⟨b, 0, none⟩ = some (.slice a n c) := cell_of hb 0
  have d1 : w.cell? ⟨b, 1, none⟩ = some (.pointer q) := cell_of hb 1
  have e0 : (w.setCell ⟨R, 0, none⟩ (.pointer q)).cell? ⟨b, 0, none⟩ = some (.slice a n c) := by rw [World.cell?_setCell_other _ _ _ _ (by intro h; cases h; exact hne rfl)]; exact d0
  clear hR hb
  go_enter Try.func27, Try.ntmps27
  go_wp2
  go_ret2
  exact ⟨rfl, rfl⟩
end Go.Proofs.Ytlajffbjkgedhaa.M
