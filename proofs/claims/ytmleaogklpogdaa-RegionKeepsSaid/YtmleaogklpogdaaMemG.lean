/-
  A memory that is none, and one that nobody made: each method tells so.
-/
import Derived.Test.YtmleaogklpogdaaMemF
namespace Go.Proofs.Ytmleaogklpogdaa.M
open Go.RowKit
set_option linter.unusedVariables false
set_option linter.unusedSectionVars false
set_option linter.unusedSimpArgs false
/-- No memory, or one that nobody made. -/
def Off (w : World) (v : Value) : Prop := v = .pointer none ∨ ∃ B x, v = .pointer (some ⟨B, 0, none⟩) ∧ w.heap[B]? = some (.cells #[.map none, x] tM)
theorem Off.but {w w' : World} {v : Value} (h : Off w v) (hb : But [] w w') : Off w' v := by
  rcases h with h | ⟨B, x, h, hB⟩
  · exact .inl h
  · exact .inr ⟨B, x, h, hb.heap hB (by simp)⟩
theorem look_off (v : Value) (n off size : Int) (k : Nat) (caps : Array Value) (w : World) (h : Off w v) :
    Calls Try.prog 19 #[v, .int .i64 n, .int .i64 off, .int .i64 size, .func (.func k) #[] caps] w fun e w' => e = .returned (.int .i64 1) ∧ But [] w w' := by
  rcases h with rfl | ⟨B, x, rfl, hB⟩
  · exact look_nil n off size k caps w
  · exact look_unmade B x n off size k caps w hB
theorem make_off (v : Value) (kind : Int) (s : Value) (w : World) (h : Off w v) :
    Calls Try.prog 5 #[v, .int .u8 kind, s] w fun e w' => e = .returned (.tuple #[.int .i64 0, .int .i64 1]) ∧ w = w' := by
  rcases h with rfl | ⟨B, x, rfl, hB⟩
  · go_enter Try.func5, Try.ntmps5
    go_wp2
    go_ret2
    exact ⟨rfl, rfl⟩
  · go_enter Try.func5, Try.ntmps5
    go_wp2_with (go_at_call 16; refine (known B none _ (cell_of hB 0)).mono ?_; rintro e w1 ⟨rfl, rfl⟩)
    go_ret2
    exact ⟨rfl, rfl⟩
theorem kind_off (p n : Value) (m : Int) (w : World) (h : Off w p) (hn : n = .int .i64 m) :
    Calls Try.prog 9 #[p, n] w fun e w' => e = .returned (.int .u8 0) ∧ But [] w w' := by
  subst hn
  have h1 : Off (w.alloc (.cells #[.int .u8 0] 32)) p := h.but ((But.refl [] w).alloc _)
  have hb1 : But [] w (w.alloc (.cells #[.int .u8 0] 32)) := (But.refl [] w).alloc _
  go_enter Try.func9, Try.ntmps9
  go_wp2_with (go_at_call 19; refine (look_off p m 0 0 _ _ _ h1).mono ?_; rintro e w1 ⟨rfl, hb⟩; have c1 : w1.cell? ⟨w.heap.size, 0, none⟩ = some (.int .u8 0) := cell_of (hb.heap (alloc_at w _) (by simp)) 0; have f1 : w1.frozen? ⟨w.heap.size, 0, none⟩ = false := frozen_of (hb.heap (alloc_at w _) (by simp)) 0)
  refine bodyPost_ret (ret_cell1 rfl rfl (by kernel_rfl) (World.cell?_setCell_same _ _ _ c1)) rfl ?_
  exact ⟨rfl, (hb1.trans hb (by simp)).setCell (.inr (Nat.le_refl _)) _⟩
theorem size_off (p n : Value) (m : Int) (w : World) (h : Off w p) (hn : n = .int .i64 m) :
    Calls Try.prog 10 #[p, n] w fun e w' => e = .returned (.int .i64 0) ∧ But [] w w' := by
  subst hn
  have h1 : Off (w.alloc (.cells #[.int .i64 0] 3)) p := h.but ((But.refl [] w).alloc _)
  have hb1 : But [] w (w.alloc (.cells #[.int .i64 0] 3)) := (But.refl [] w).alloc _
  go_enter Try.func10, Try.ntmps10
  go_wp2_with (go_at_call 19; refine (look_off p m 0 0 _ _ _ h1).mono ?_; rintro e w1 ⟨rfl, hb⟩; have c1 : w1.cell? ⟨w.heap.size, 0, none⟩ = some (.int .i64 0) := cell_of (hb.heap (alloc_at w _) (by simp)) 0; have f1 : w1.frozen? ⟨w.heap.size, 0, none⟩ = false := frozen_of (hb.heap (alloc_at w _) (by simp)) 0)
  refine bodyPost_ret (ret_cell1 rfl rfl (by kernel_rfl) (World.cell?_setCell_same _ _ _ c1)) rfl ?_
  exact ⟨rfl, (hb1.trans hb (by simp)).setCell (.inr (Nat.le_refl _)) _⟩
theorem free_off (p : Value) (m : Int) (w : World) (h : Off w p) (hp : ∃ a, p = .pointer a) :
    Calls Try.prog 8 #[p, .int .i64 m] w fun e w' => e = .returned (.int .i64 1) ∧ But [] w w' := by
  obtain ⟨a, rfl⟩ := hp
  have hb1 : But [] w ((w.alloc (.cells #[.pointer a] 22)).alloc (.cells #[.int .i64 m] 3)) := ((But.refl [] w).alloc _).alloc _
  have h1 := h.but hb1
  go_enter Try.func8, Try.ntmps8
  go_wp2_with (go_at_call 19; refine (look_off _ m 0 0 _ _ _ h1).mono ?_; rintro e w1 ⟨rfl, hb⟩)
  go_ret
  exact ⟨rfl, hb1.trans hb (by simp)⟩
theorem write_off (p : Value) (m off : Int) (s : Value) (a : Option Addr) (n cap : Nat) (w : World) (h : Off w p) (hs : s = .slice a n cap) :
    Calls Try.prog 7 #[p, .int .i64 m, .int .i64 off, s] w fun e w' => e = .returned (.int .i64 1) ∧ But [] w w' := by
  subst hs
  have hb1 : But [] w ((w.alloc (.cells #[.int .i64 off] 2)).alloc (.cells #[.slice a n cap] 33)) := ((But.refl [] w).alloc _).alloc _
  have h1 := h.but hb1
  go_enter Try.func7, Try.ntmps7
  go_wp2_with (go_at_call 19; refine (look_off _ m off _ _ _ _ h1).mono ?_; rintro e w1 ⟨rfl, hb⟩)
  go_ret
  exact ⟨rfl, hb1.trans hb (by simp)⟩
theorem read_off (p : Value) (m off size : Int) (w : World) (h : Off w p) :
    Calls Try.prog 6 #[p, .int .i64 m, .int .i64 off, .int .i64 size] w fun e w' => e = .returned (.tuple #[.slice none 0 0, .int .i64 1]) ∧ But [] w w' := by
  have hb1 : But [] w (((w.alloc (.cells #[.int .i64 off] 2)).alloc (.cells #[.int .i64 size] 3)).alloc (.cells #[.slice none 0 0] 33)) := (((But.refl [] w).alloc _).alloc _).alloc _
  have h1 := h.but hb1
  have ha : (((w.alloc (.cells #[.int .i64 off] 2)).alloc (.cells #[.int .i64 size] 3)).alloc (.cells #[.slice none 0 0] 33)).heap[w.heap.size + 2]? = some (.cells #[.slice none 0 0] 33) := by
    have := alloc_at ((w.alloc (.cells #[.int .i64 off] 2)).alloc (.cells #[.int .i64 size] 3)) (.cells #[.slice none 0 0] 33)
    rw [size_alloc, size_alloc] at this
    exact this
  go_enter Try.func6, Try.ntmps6
  go_wp2_with (go_at_call 19; refine (look_off _ m off size _ _ _ h1).mono ?_; rintro e w1 ⟨rfl, hb⟩; have c1 : w1.cell? ⟨w.heap.size + 1 + 1, 0, none⟩ = some (.slice none 0 0) := cell_of (hb.heap ha (by simp)) 0; have f1 : w1.frozen? ⟨w.heap.size + 1 + 1, 0, none⟩ = false := frozen_of (hb.heap ha (by simp)) 0)
  refine bodyPost_ret (ret_cell2 rfl rfl rfl (by kernel_rfl) (World.cell?_setCell_same _ _ _ c1)) rfl ?_
  exact ⟨rfl, (hb1.trans hb (by simp)).setCell (.inr (by simp; omega)) _⟩
end Go.Proofs.Ytmleaogklpogdaa.M
