/-
  The methods at a live part: Read.
-/
import Derived.Test.YtmleaogklpogdaaMemP
import Derived.Test.YtmleaogklpogdaaMemK
namespace Go.Proofs.Ytmleaogklpogdaa.M
open Go.RowKit
set_option linter.unusedVariables false
set_option linter.unusedSectionVars false
set_option linter.unusedSimpArgs false
theorem read_bounds (base B b : Nat) (last off size : Int) (l : List Part) (p : Part) (w : World) (h : Mem w base B b last l) (hp : p ∈ l) (ho : I64 off) (hz : I64 size) (hh : Has off size p.bs.length = false) :
    Calls Try.prog 6 #[.pointer (some ⟨B, 0, none⟩), .int .i64 p.num, .int .i64 off, .int .i64 size] w fun e w' => e = .returned (.tuple #[.slice none 0 0, .int .i64 32]) ∧ But [] w w' := by
  obtain ⟨hc, hown, hbs, hlen, hk1, hk5⟩ := h.part p hp
  obtain ⟨a2, cap2, hsl⟩ := own_shape' hown
  rw [hsl] at hc
  have hb1 : But [] w (((w.alloc (.cells #[.int .i64 off] 2)).alloc (.cells #[.int .i64 size] 3)).alloc (.cells #[.slice none 0 0] 33)) := (((But.refl [] w).alloc _).alloc _).alloc _
  have h1 := h.new hb1
  obtain ⟨es, clock, hmm, hE⟩ := h1.map
  have ha := alloc3_at w (.cells #[.int .i64 off] 2) (.cells #[.int .i64 size] 3) (.cells #[.slice none 0 0] 33)
  go_enter Try.func6, Try.ntmps6
  go_wp2_with (go_at_call 19; refine (look_bounds B b p.blk last p.num off size es clock (ents l) _ _ _ h1.cell hmm hE h.wf (h.numWf hp) h.nodup (mem_key hp) p.kind a2 p.bs.length cap2 (hb1.heap hc (by simp)) (by omega) ho hz hh).mono ?_; rintro e w1 ⟨rfl, hb⟩; have c1 : w1.cell? ⟨w.heap.size + 1 + 1, 0, none⟩ = some (.slice none 0 0) := cell_of (hb.heap ha (by simp)) 0; have f1 : w1.frozen? ⟨w.heap.size + 1 + 1, 0, none⟩ = false := frozen_of (hb.heap ha (by simp)) 0)
  refine bodyPost_ret (ret_cell2 rfl rfl rfl (by kernel_rfl) (World.cell?_setCell_same _ _ _ c1)) rfl ?_
  exact ⟨rfl, (hb1.trans hb (by simp)).setCell (.inr (by simp; omega)) _⟩
theorem alloc3_0 (w : World) (x y z : Obj) : (((w.alloc x).alloc y).alloc z).heap[w.heap.size]? = some x := alloc_lt (alloc_lt (alloc_at w x) y) z
theorem alloc3_1 (w : World) (x y z : Obj) : (((w.alloc x).alloc y).alloc z).heap[w.heap.size + 1]? = some y := by
  have := alloc_at (w.alloc x) y
  rw [size_alloc] at this
  exact alloc_lt this z
theorem read_ok (base B b o m : Nat) (last : Int) (l : List Part) (p : Part) (w : World) (h : Mem w base B b last l) (hp : p ∈ l) (hfit : o + m ≤ p.bs.length) :
    Calls Try.prog 6 #[.pointer (some ⟨B, 0, none⟩), .int .i64 p.num, .int .i64 o, .int .i64 m] w fun e w' => ∃ v, e = .returned (.tuple #[v, .int .i64 0]) ∧ Own w' v ((p.bs.drop o).take m) ∧ (∀ k, v.ownBlock = some k → w.heap.size ≤ k) ∧ But [] w w' := by
  obtain ⟨hc, hown, hbs, hlen, hk1, hk5⟩ := h.part p hp
  obtain ⟨a2, cap2, hsl⟩ := own_shape' hown
  have hc' := hc
  rw [hsl] at hc'
  obtain ⟨w2, hw2⟩ : ∃ w2, w2 = ((w.alloc (.cells #[.int .i64 o] 2)).alloc (.cells #[.int .i64 m] 3)).alloc (.cells #[.slice none 0 0] 33) := ⟨_, rfl⟩
  have hb1 : But [] w w2 := by rw [hw2]; exact (((But.refl [] w).alloc _).alloc _).alloc _
  have h0 : w2.heap[w.heap.size]? = some (.cells #[.int .i64 o] 2) := by rw [hw2]; exact alloc3_0 _ _ _ _
  have h01 : w2.heap[w.heap.size + 1]? = some (.cells #[.int .i64 m] 3) := by rw [hw2]; exact alloc3_1 _ _ _ _
  have h02 : w2.heap[w.heap.size + 2]? = some (.cells #[.slice none 0 0] 33) := by rw [hw2]; exact alloc3_at _ _ _ _
  have hz2 : w2.heap.size = w.heap.size + 3 := by rw [hw2]; simp only [size_alloc]
  have h1 := h.new hb1
  obtain ⟨es, clock, hmm, hE⟩ := h1.map
  have hW := w4_but w2 o m (.func (.func 20) #[] #[.pointer (some ⟨w.heap.size, 0, none⟩), .pointer (some ⟨w.heap.size + 1, 0, none⟩), .pointer (some ⟨w.heap.size + 2, 0, none⟩)]) 0
  have hz4 := w4_size w2 o m (.func (.func 20) #[] #[.pointer (some ⟨w.heap.size, 0, none⟩), .pointer (some ⟨w.heap.size + 1, 0, none⟩), .pointer (some ⟨w.heap.size + 2, 0, none⟩)]) 0
  have hW2 := hb1.trans hW (by simp)
  have hL := look_ok B b p.blk last p.num o m es clock (ents l) 20 #[.pointer (some ⟨w.heap.size, 0, none⟩), .pointer (some ⟨w.heap.size + 1, 0, none⟩), .pointer (some ⟨w.heap.size + 2, 0, none⟩)] w2
    (fun W => (∃ v', W.heap[w.heap.size + 2]? = some (.cells #[v'] 33) ∧ Own W v' ((p.bs.drop o).take m) ∧ (∀ k, v'.ownBlock = some k → w2.heap.size + 4 ≤ k)) ∧ But [] w W ∧ W.heap[w2.heap.size + 3]? = some (.cells #[.int .i64 0] 29))
    (fun args w => by kernel_rfl) h1.cell hmm hE h.wf (h.numWf hp) h.nodup (mem_key hp) p.kind a2 p.bs.length cap2 (hb1.heap hc' (by simp)) (by omega) ⟨by omega, by omega⟩ ⟨by omega, by omega⟩ (has_fit (by omega))
    ((readF p.blk w.heap.size (w.heap.size + 1) (w.heap.size + 2) o m p.kind p.sl _ p.bs _ (hW2.heap hc (by simp)) (hown.but hW2 (by simp)) hbs hfit hlen (hW.heap h0 (by simp)) (hW.heap h01 (by simp)) (hW.heap h02 (by simp))).mono (by
      rintro e W ⟨he, v', hv1, hv2, hv3, hv4⟩
      refine ⟨he, ⟨v', hv1, hv2, fun k hk => by have := hv3 k hk; omega⟩, (hW2.trans hv4 (fun x hx => .inr (by simp at hx; omega))), hv4.heap (w4_3 _ _ _ _ _) (by simp; omega)⟩))
    (fun W hW => hW.2.2)
  subst hw2
  clear hE hmm hc hc' hsl h0 h01 h02 hW hW2 h1 hz4
  go_enter Try.func6, Try.ntmps6
  go_wp2_with (go_at_call 19; refine hL.mono ?_; rintro e w1 ⟨rfl, w2, ⟨⟨v', hv1, hv2, hv3⟩, hw3, hw4⟩, hw1⟩; obtain ⟨a1, n1, cap1, rfl⟩ := own_shape hv2; have hbut : But [] w w1 := (by rw [hw1]; exact hw3.setCell (.inr (by simp only []; omega)) _); have ho1 : Own w1 (.slice a1 n1 cap1) ((p.bs.drop o).take m) := (by rw [hw1]; exact hv2.but ((But.refl [_] w2).setCell (.inl (List.mem_singleton.2 rfl)) _) (fun k hk hm => by have := hv3 k hk; have := List.mem_singleton.1 hm; simp only [] at this; omega)); have hh1 : w1.heap[w.heap.size + 2]? = some (.cells #[.slice a1 n1 cap1] 33) := (by rw [hw1, Below.heap_setCell _ _ _ _ (by simp only []; omega)]; exact hv1); have c1 : w1.cell? ⟨w.heap.size + 1 + 1, 0, none⟩ = some (.slice a1 n1 cap1) := cell_of hh1 0; have f1 : w1.frozen? ⟨w.heap.size + 1 + 1, 0, none⟩ = false := frozen_of hh1 0; clear hw1)
  refine bodyPost_ret (ret_cell2 rfl rfl rfl (by kernel_rfl) (World.cell?_setCell_same _ _ _ c1)) rfl ?_
  refine ⟨_, rfl, ho1.but ((But.refl [w.heap.size + 1 + 1] _).setCell (.inl (by simp)) _) (fun k hk hm => ?_), fun k hk => ?_, hbut.setCell (.inr (by simp only []; omega)) _⟩
  · have := hv3 k hk
    have := List.mem_singleton.1 hm
    omega
  · have := hv3 k hk
    omega
end Go.Proofs.Ytmleaogklpogdaa.M
