/-
  No ring, and one that nobody made: each method tells so. A thing put behind.
-/
import Derived.Test.YtlajffbjkgedhaaChain
namespace Go.Proofs.Ytlajffbjkgedhaa.M
open Go.RowKit
set_option linter.unusedVariables false
set_option linter.unusedSectionVars false
set_option linter.unusedSimpArgs false
/-- No ring, or one that nobody made. -/
def OffR (w : World) (v : Value) : Prop := v = .pointer none ∨ ∃ R f l, v = .pointer (some ⟨R, 0, none⟩) ∧ w.heap[R]? = some (.cells #[f, l, .int .i64 0] 52)
theorem OffR.but {w w' : World} {v : Value} (h : OffR w v) (hb : But [] w w') : OffR w' v := by
  rcases h with h | ⟨R, f, l, h, hR⟩
  · exact .inl h
  · exact .inr ⟨R, f, l, h, hb.heap hR (by simp)⟩
theorem take_off (v : Value) (w : World) (h : OffR w v) :
    Calls Try.prog 12 #[v] w fun e w' => e = .returned (.tuple #[.slice none 0 0, .int .i64 1]) ∧ w = w' := by
  rcases h with rfl | ⟨R, f, l, rfl, hR⟩
  · go_enter Try.func12, Try.ntmps12
    go_wp2_with (go_at_call 26; refine (known_nil _).mono ?_; rintro e w1 ⟨rfl, rfl⟩)
    go_ret2
    exact ⟨rfl, rfl⟩
  · go_enter Try.func12, Try.ntmps12
    go_wp2_with (go_at_call 26; refine (known_no R f l _ hR).mono ?_; rintro e w1 ⟨rfl, rfl⟩)
    go_ret2
    exact ⟨rfl, rfl⟩
theorem put_off (v s : Value) (w : World) (h : OffR w v) :
    Calls Try.prog 15 #[v, s] w fun e w' => e = .returned (.int .i64 1) ∧ w = w' := by
  rcases h with rfl | ⟨R, f, l, rfl, hR⟩
  · go_enter Try.func15, Try.ntmps15
    go_wp2_with (go_at_call 26; refine (known_nil _).mono ?_; rintro e w1 ⟨rfl, rfl⟩)
    go_ret
    exact ⟨rfl, rfl⟩
  · go_enter Try.func15, Try.ntmps15
    go_wp2_with (go_at_call 26; refine (known_no R f l _ hR).mono ?_; rintro e w1 ⟨rfl, rfl⟩)
    go_ret
    exact ⟨rfl, rfl⟩
theorem room_off (v : Value) (w : World) (h : OffR w v) :
    Calls Try.prog 19 #[v] w fun e w' => e = .returned (.int .i64 0) ∧ w = w' := by
  rcases h with rfl | ⟨R, f, l, rfl, hR⟩
  · go_enter Try.func19, Try.ntmps19
    go_wp2_with (go_at_call 26; refine (known_nil _).mono ?_; rintro e w1 ⟨rfl, rfl⟩)
    go_ret
    exact ⟨rfl, rfl⟩
  · go_enter Try.func19, Try.ntmps19
    go_wp2_with (go_at_call 26; refine (known_no R f l _ hR).mono ?_; rintro e w1 ⟨rfl, rfl⟩)
    go_ret
    exact ⟨rfl, rfl⟩
def nothing : Ending := .returned (.tuple #[])
theorem put_first (R : Nat) (l0 : Option Addr) (s x : Value) (a : Option Addr) (n c : Nat) (w : World) (hx : x = .slice a n c) (hR : w.heap[R]? = some (.cells #[.pointer none, .pointer l0, s] 52)) :
    Calls Try.prog 28 #[.pointer (some ⟨R, 0, none⟩), x] w fun e w' => e = nothing ∧ ((w.setCell ⟨R, 0, none⟩ (.pointer (some ⟨w.heap.size, 0, none⟩))).setCell ⟨R, 1, none⟩ (.pointer (some ⟨w.heap.size, 0, none⟩))).alloc (.cells #[x, .pointer none] 105) = w' := by
  subst hx
  have hlt : R < w.heap.size := lt_of hR
  have c0 := cell_of hR 0
  have c1 := cell_of hR 1
  have f0 := frozen_of hR 0
  have f1 := frozen_of hR 1
  clear hR
  go_enter Try.func28, Try.ntmps28
  go_wp2
  go_end0
  exact ⟨rfl, rfl⟩
theorem put_more (R b : Nat) (p0 : Addr) (s u x : Value) (q : Option Addr) (a : Option Addr) (n c : Nat) (w : World) (hx : x = .slice a n c) (hR : w.heap[R]? = some (.cells #[.pointer (some p0), .pointer (some ⟨b, 0, none⟩), s] 52)) (hb : w.heap[b]? = some (.cells #[u, .pointer q] 105)) (hne : b ≠ R) :
    Calls Try.prog 28 #[.pointer (some ⟨R, 0, none⟩), x] w fun e w' => e = nothing ∧ ((w.setCell ⟨b, 1, none⟩ (.pointer (some ⟨w.heap.size, 0, none⟩))).setCell ⟨R, 1, none⟩ (.pointer (some ⟨w.heap.size, 0, none⟩))).alloc (.cells #[x, .pointer none] 105) = w' := by
  subst hx
  have hlt : R < w.heap.size := lt_of hR
  have hlt2 : b < w.heap.size := lt_of hb
  have c0 := cell_of hR 0
  have c1 := cell_of hR 1
  have f1 := frozen_of hR 1
  have d1 := cell_of hb 1
  have g1 := frozen_of hb 1
  have e1 : (w.setCell ⟨b, 1, none⟩ (.pointer (some ⟨w.heap.size, 0, none⟩))).cell? ⟨R, 1, none⟩ = some (.pointer (some ⟨b, 0, none⟩)) := by rw [World.cell?_setCell_other _ _ _ _ (by intro h; cases h; exact hne rfl)]; exact c1
  clear hR hb
  go_enter Try.func28, Try.ntmps28
  go_wp2
  go_end0
  exact ⟨rfl, rfl⟩
end Go.Proofs.Ytlajffbjkgedhaa.M
