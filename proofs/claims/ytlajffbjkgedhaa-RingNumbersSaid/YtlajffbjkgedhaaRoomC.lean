/-
  Room, plainly: what is left is the size less eight and its length for each record.
-/
import Derived.Test.YtlajffbjkgedhaaRoomB
import Derived.IntWalk
namespace Go.Proofs.Ytlajffbjkgedhaa.M
open Go.RowKit
set_option linter.unusedVariables false
set_option linter.unusedSectionVars false
set_option linter.unusedSimpArgs false
def sumL (xs : List Sl) : Int := (xs.map (fun x => (8 + x.2.1 : Int))).sum
theorem sumL_nonneg (xs : List Sl) : 0 ≤ sumL xs := by
  induction xs with
  | nil => simp [sumL]
  | cons x xs ih => simp only [sumL, List.map_cons, List.sum_cons] at *; omega
theorem sumW_gen (xs : List Sl) : ∀ (u : Int), 0 ≤ u → u + sumL xs ≤ 1000000000000 → xs.foldl (fun u x => wrap64 (u + wrap64 (8 + x.2.1))) u = u + sumL xs := by
  induction xs with
  | nil => intro u _ _; simp [sumL]
  | cons x xs ih =>
    intro u h0 h1
    have hn := sumL_nonneg xs
    have e : sumL (x :: xs) = (8 + x.2.1 : Int) + sumL xs := by simp [sumL]
    rw [e] at h1 ⊢
    rw [List.foldl_cons, IntWalk.wrap64_in (8 + (x.2.1 : Int)) ⟨by omega, by omega⟩, IntWalk.wrap64_in (u + (8 + (x.2.1 : Int))) ⟨by omega, by omega⟩, ih _ (by omega) (by omega)]
    omega
theorem room_ok (R : Nat) (p0 : Option Addr) (l : Value) (size : Int) (xs : List Sl) (w : World) (hR : w.heap[R]? = some (.cells #[.pointer p0, l, .int .i64 size] 52)) (hs : 0 < size) (hs2 : size ≤ 1000000) (hL : IsList w.heap.size w p0 xs) (hx : sumL xs ≤ size) :
    Calls Try.prog 19 #[.pointer (some ⟨R, 0, none⟩)] w fun e w' => e = .returned (.int .i64 (size - sumL xs)) ∧ Below w.heap.size w w' := by
  have h := callsIn_wide.1 (room_w 6 (Nat.le_refl _) R p0 l size xs w hR hs hL)
  have hn := sumL_nonneg xs
  have e : sumW xs = sumL xs := by
    have := sumW_gen xs 0 (by omega) (by omega)
    unfold sumW
    rw [this]; omega
  rw [e, IntWalk.wrap64_in (size - sumL xs) ⟨by omega, by omega⟩] at h
  exact h
end Go.Proofs.Ytlajffbjkgedhaa.M
