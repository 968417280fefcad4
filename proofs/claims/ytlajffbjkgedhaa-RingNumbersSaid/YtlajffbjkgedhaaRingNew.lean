/-
  New, of a ring's make that is right.
-/
import Derived.Test.YtlajffbjkgedhaaRingTake
import Derived.Test.YtlajffbjkgedhaaSpec7
namespace Go.Proofs.Ytlajffbjkgedhaa.M
open Go.RowKit
set_option linter.unusedVariables false
set_option linter.unusedSectionVars false
set_option linter.unusedSimpArgs false
theorem alloc_at (w : World) (o : Obj) : (w.alloc o).heap[w.heap.size]? = some o := Array.getElem?_push_size
set_option maxHeartbeats 1000000 in
theorem ringNew (n : Int) (w : World) (h1 : 16 ≤ n) (h2 : n ≤ 16384) :
    Calls Try.prog 9 #[.agg #[.int .u8 7, .int .i64 0, .int .i64 0, .int .i64 n]] w fun e w' => ∃ R, e = .returned (.tuple #[.pointer (some ⟨R, 0, none⟩), .int .i64 0]) ∧ w.heap.size ≤ R ∧ w'.heap[R]? = some (.cells #[.pointer none, .pointer none, .int .i64 n] 52) ∧ But [] w w' := by
  have hb1 : But [] w (w.alloc (.cells #[.int .u8 7, .int .i64 0, .int .i64 0, .int .i64 n] 24)) := (But.refl [] w).alloc _
  have ha := alloc_at w (.cells #[.int .u8 7, .int .i64 0, .int .i64 0, .int .i64 n] 24)
  have hz : (w.alloc (.cells #[.int .u8 7, .int .i64 0, .int .i64 0, .int .i64 n] 24)).heap.size = w.heap.size + 1 := size_alloc _ _
  have HZ := Lib.hid hz
  clear hz
  go_enter Try.func9, Try.ntmps9
  go_wp2_with fail
  refine (spec7 n _ h1 h2).mono ?_
  rintro e w1 ⟨rfl, hb⟩
  have hc := hb.heap ha (by simp)
  have c0 : w1.cell? ⟨w.heap.size, 0, none⟩ = some (.int .u8 7) := cell_of hc 0
  have c3 : w1.cell? ⟨w.heap.size, 3, none⟩ = some (.int .i64 n) := cell_of hc 3
  have hb2 : But [] w w1 := hb1.trans hb (by simp)
  clear hc hb hb1 ha HZ
  dsimp only
  go_wp2_with fail
  go_ret2
  exact ⟨w1.heap.size, rfl, hb2.size, alloc_at w1 _, hb2.alloc _⟩
end Go.Proofs.Ytlajffbjkgedhaa.M
