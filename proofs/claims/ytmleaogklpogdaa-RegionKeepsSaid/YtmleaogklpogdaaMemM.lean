/-
  The methods at a live part: Kind, Size, Free.
-/
import Derived.Test.YtmleaogklpogdaaMemL
namespace Go.Proofs.Ytmleaogklpogdaa.M
open Go.RowKit
set_option linter.unusedVariables false
set_option linter.unusedSectionVars false
set_option linter.unusedSimpArgs false
theorem i64_0 : I64 0 := ⟨by decide, by decide⟩
theorem kind_ok (base B b : Nat) (last : Int) (l : List Part) (p : Part) (w : World) (h : Mem w base B b last l) (hp : p ∈ l) :
    Calls Try.prog 9 #[.pointer (some ⟨B, 0, none⟩), .int .i64 p.num] w fun e w' => e = .returned (.int .u8 p.kind) ∧ But [] w w' := by
  obtain ⟨hc, hown, hbs, hlen, hk1, hk5⟩ := h.part p hp
  obtain ⟨a, cap, hsl⟩ := own_shape' hown
  rw [hsl] at hc
  have hb1 : But [] w (w.alloc (.cells #[.int .u8 0] 32)) := (But.refl [] w).alloc _
  have h1 := h.new hb1
  obtain ⟨es, clock, hm, hE⟩ := h1.map
  have ha := alloc_at w (.cells #[.int .u8 0] 32)
  have hlt := size_alloc w (.cells #[.int .u8 0] 32)
  have hL := look_ok B b p.blk last p.num 0 0 es clock (ents l) 23 #[.pointer (some ⟨w.heap.size, 0, none⟩)] (w.alloc (.cells #[.int .u8 0] 32))
    (fun W => W = (W4 (w.alloc (.cells #[.int .u8 0] 32)) 0 0 (.func (.func 23) #[] #[.pointer (some ⟨w.heap.size, 0, none⟩)]) 0).setCell ⟨w.heap.size, 0, none⟩ (.int .u8 p.kind))
    (fun args w => by kernel_rfl) h1.cell hm hE h.wf (h.numWf hp) h.nodup (mem_key hp) p.kind a p.bs.length cap (hb1.heap hc (by simp)) (by omega) i64_0 i64_0 (has_0 _)
    (kindF p.blk w.heap.size p.kind _ _ _ ((w4_but _ _ _ _ _).heap (hb1.heap hc (by simp)) (by simp)) ((w4_but _ _ _ _ _).heap ha (by simp)))
    (fun W hW => by
      subst hW
      rw [Below.heap_setCell _ _ _ _ (by simp only []; omega)]
      exact w4_3 _ _ _ _ _)
  go_enter Try.func9, Try.ntmps9
  go_wp2_with (go_at_call 19; refine hL.mono ?_; rintro e w1 ⟨rfl, w2, hw2, hw1⟩; have hbut : But [] w w1 := (by rw [hw1, hw2]; exact (((hb1.trans (w4_but _ _ _ _ _) (by simp)).setCell (.inr (Nat.le_refl _)) _).setCell (.inr (by simp only []; omega)) _)); have c1 : w1.cell? ⟨w.heap.size, 0, none⟩ = some (.int .u8 p.kind) := (by rw [hw1, hw2]; exact cell_of (k := w.heap.size) (cs := #[.int .u8 p.kind]) (t := 32) (by rw [Below.heap_setCell _ _ _ _ (by simp only []; omega)]; exact set_cell0 ((w4_but _ _ _ _ _).heap ha (by simp)) _) 0); have f1 : w1.frozen? ⟨w.heap.size, 0, none⟩ = false := (by rw [hw1, hw2]; exact frozen_of (k := w.heap.size) (cs := #[.int .u8 p.kind]) (t := 32) (by rw [Below.heap_setCell _ _ _ _ (by simp only []; omega)]; exact set_cell0 ((w4_but _ _ _ _ _).heap ha (by simp)) _) 0); clear hw1)
  refine bodyPost_ret (ret_cell1 rfl rfl (by kernel_rfl) (World.cell?_setCell_same _ _ _ c1)) rfl ?_
  exact ⟨rfl, hbut.setCell (.inr (Nat.le_refl _)) _⟩
theorem size_ok (base B b : Nat) (last : Int) (l : List Part) (p : Part) (w : World) (h : Mem w base B b last l) (hp : p ∈ l) :
    Calls Try.prog 10 #[.pointer (some ⟨B, 0, none⟩), .int .i64 p.num] w fun e w' => e = .returned (.int .i64 p.bs.length) ∧ But [] w w' := by
  obtain ⟨hc, hown, hbs, hlen, hk1, hk5⟩ := h.part p hp
  obtain ⟨a, cap, hsl⟩ := own_shape' hown
  rw [hsl] at hc
  have hb1 : But [] w (w.alloc (.cells #[.int .i64 0] 3)) := (But.refl [] w).alloc _
  have h1 := h.new hb1
  obtain ⟨es, clock, hm, hE⟩ := h1.map
  have ha := alloc_at w (.cells #[.int .i64 0] 3)
  have hlt := size_alloc w (.cells #[.int .i64 0] 3)
  have hL := look_ok B b p.blk last p.num 0 0 es clock (ents l) 24 #[.pointer (some ⟨w.heap.size, 0, none⟩)] (w.alloc (.cells #[.int .i64 0] 3))
    (fun W => W = (W4 (w.alloc (.cells #[.int .i64 0] 3)) 0 0 (.func (.func 24) #[] #[.pointer (some ⟨w.heap.size, 0, none⟩)]) 0).setCell ⟨w.heap.size, 0, none⟩ (.int .i64 p.bs.length))
    (fun args w => by kernel_rfl) h1.cell hm hE h.wf (h.numWf hp) h.nodup (mem_key hp) p.kind a p.bs.length cap (hb1.heap hc (by simp)) (by omega) i64_0 i64_0 (has_0 _)
    (sizeF p.blk w.heap.size p.kind a p.bs.length cap _ _ ((w4_but _ _ _ _ _).heap (hb1.heap hc (by simp)) (by simp)) ((w4_but _ _ _ _ _).heap ha (by simp)))
    (fun W hW => by
      subst hW
      rw [Below.heap_setCell _ _ _ _ (by simp only []; omega)]
      exact w4_3 _ _ _ _ _)
  go_enter Try.func10, Try.ntmps10
  go_wp2_with (go_at_call 19; refine hL.mono ?_; rintro e w1 ⟨rfl, w2, hw2, hw1⟩; have hbut : But [] w w1 := (by rw [hw1, hw2]; exact (((hb1.trans (w4_but _ _ _ _ _) (by simp)).setCell (.inr (Nat.le_refl _)) _).setCell (.inr (by simp only []; omega)) _)); have c1 : w1.cell? ⟨w.heap.size, 0, none⟩ = some (.int .i64 p.bs.length) := (by rw [hw1, hw2]; exact cell_of (k := w.heap.size) (cs := #[.int .i64 p.bs.length]) (t := 3) (by rw [Below.heap_setCell _ _ _ _ (by simp only []; omega)]; exact set_cell0 ((w4_but _ _ _ _ _).heap ha (by simp)) _) 0); have f1 : w1.frozen? ⟨w.heap.size, 0, none⟩ = false := (by rw [hw1, hw2]; exact frozen_of (k := w.heap.size) (cs := #[.int .i64 p.bs.length]) (t := 3) (by rw [Below.heap_setCell _ _ _ _ (by simp only []; omega)]; exact set_cell0 ((w4_but _ _ _ _ _).heap ha (by simp)) _) 0); clear hw1)
  refine bodyPost_ret (ret_cell1 rfl rfl (by kernel_rfl) (World.cell?_setCell_same _ _ _ c1)) rfl ?_
  exact ⟨rfl, hbut.setCell (.inr (Nat.le_refl _)) _⟩
end Go.Proofs.Ytmleaogklpogdaa.M
