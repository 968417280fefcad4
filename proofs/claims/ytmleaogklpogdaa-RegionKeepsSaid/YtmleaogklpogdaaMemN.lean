/-
  The methods at a live part: Free.
-/
import Derived.Test.YtmleaogklpogdaaMemM
namespace Go.Proofs.Ytmleaogklpogdaa.M
open Go.RowKit
set_option linter.unusedVariables false
set_option linter.unusedSectionVars false
set_option linter.unusedSimpArgs false
def without (l : List Part) (n : Int) : List Part := l.filter (fun p => p.num != n)
theorem ents_without (l : List Part) (n : Int) : ents (without l n) = (ents l).filter (fun q => q.1 != n) := by
  simp only [ents, without, List.filter_map]; rfl
theorem flat_sub {α β : Type} {f : α → List β} : ∀ {l' l : List α}, l'.Sublist l → (l'.flatMap f).Sublist (l.flatMap f)
  | _, _, .slnil => .slnil
  | _, _, .cons a h => by rw [List.flatMap_cons]; exact (flat_sub h).trans (List.sublist_append_right _ _)
  | _, _, .cons_cons a h => by rw [List.flatMap_cons, List.flatMap_cons]; exact (List.Sublist.refl _).append (flat_sub h)
theorem blocks_sub {B b : Nat} {l l' : List Part} (h : l'.Sublist l) : (blocks B b l').Sublist (blocks B b l) :=
  ((flat_sub h).cons_cons b).cons_cons B
theorem Mem.ne {w : World} {base B b : Nat} {last : Int} {l : List Part} (h : Mem w base B b last l) : B ≠ b := by
  have := h.apart
  simp only [blocks, List.nodup_cons, List.mem_cons, not_or] at this
  exact this.1.1
theorem Mem.free {w w' : World} {base B b : Nat} {last n : Int} {l : List Part} (h : Mem w base B b last l) (hb : But [b] w w') (hm : ∃ es clock, w'.heap[b]? = some (.map es clock) ∧ Ents es ((ents l).filter (fun q => q.1 != n))) : Mem w' base B b last (without l n) where
  cell := hb.heap h.cell (by simpa using h.ne)
  map := by rw [ents_without]; exact hm
  last0 := h.last0
  nums := fun p hp => h.nums p (List.mem_filter.1 hp).1
  dist := (List.filter_sublist.map _).nodup h.dist
  part := fun p hp => by
    have hp' := (List.mem_filter.1 hp).1
    obtain ⟨h1, h2, h3⟩ := h.part p hp'
    have hn : ∀ k ∈ Part.blocks p, k ≠ b := fun k hk he => by
      have := h.apart
      simp only [blocks, List.nodup_cons] at this
      exact this.2.1 (he ▸ List.mem_flatMap.2 ⟨p, hp', hk⟩)
    exact ⟨hb.heap h1 (by simpa using hn _ (by simp [Part.blocks])), h2.but hb (fun k hk => by simpa using hn k (by simp [Part.blocks, hk])), h3⟩
  apart := (blocks_sub List.filter_sublist).nodup h.apart
  low := fun x hx => h.low x ((blocks_sub List.filter_sublist).subset hx)
theorem free_ok (base B b : Nat) (last : Int) (l : List Part) (p : Part) (w : World) (h : Mem w base B b last l) (hp : p ∈ l) :
    Calls Try.prog 8 #[.pointer (some ⟨B, 0, none⟩), .int .i64 p.num] w fun e w' => e = .returned (.int .i64 0) ∧ But [b] w w' ∧ Mem w' base B b last (without l p.num) := by
  obtain ⟨hc, hown, hbs, hlen, hk1, hk5⟩ := h.part p hp
  obtain ⟨a, cap, hsl⟩ := own_shape' hown
  rw [hsl] at hc
  have hbl : b < w.heap.size := h.lt b (by simp [blocks])
  obtain ⟨w2, hw2⟩ : ∃ w2, w2 = (w.alloc (.cells #[.pointer (some ⟨B, 0, none⟩)] 22)).alloc (.cells #[.int .i64 p.num] 3) := ⟨_, rfl⟩
  have hb1 : But [] w w2 := by rw [hw2]; exact ((But.refl [] w).alloc _).alloc _
  have h0 : w2.heap[w.heap.size]? = some (.cells #[.pointer (some ⟨B, 0, none⟩)] 22) := by rw [hw2]; exact alloc_lt (alloc_at w _) _
  have h01 : w2.heap[w.heap.size + 1]? = some (.cells #[.int .i64 p.num] 3) := by
    rw [hw2]
    have := alloc_at (w.alloc (.cells #[.pointer (some ⟨B, 0, none⟩)] 22)) (.cells #[.int .i64 p.num] 3)
    rw [size_alloc] at this
    exact this
  have h1 := h.new hb1
  obtain ⟨es, clock, hm, hE⟩ := h1.map
  have hW := w4_but w2 0 0 (.func (.func 22) #[] #[.pointer (some ⟨w.heap.size, 0, none⟩), .pointer (some ⟨w.heap.size + 1, 0, none⟩)]) 0
  have h4 := h1.new hW
  have hL := look_ok B b p.blk last p.num 0 0 es clock (ents l) 22 #[.pointer (some ⟨w.heap.size, 0, none⟩), .pointer (some ⟨w.heap.size + 1, 0, none⟩)] w2
    (fun W => But [b] w W ∧ (∃ es', W.heap[b]? = some (.map es' clock) ∧ Ents es' ((ents l).filter (fun q => q.1 != p.num))) ∧ W.heap[w2.heap.size + 3]? = some (.cells #[.int .i64 0] 29))
    (fun args w => by kernel_rfl) h1.cell hm hE h.wf (h.numWf hp) h.nodup (mem_key hp) p.kind a p.bs.length cap (hb1.heap hc (by simp)) (by omega) i64_0 i64_0 (has_0 _)
    ((freeF B b w.heap.size (w.heap.size + 1) last p.num _ es clock (ents l) _ _ h4.cell (hW.heap hm (by simp)) hE h.wf (h.numWf hp) h.nodup (mem_key hp) (hW.heap h0 (by simp)) (hW.heap h01 (by simp))).mono (by
      rintro e W ⟨he, hbW, hes⟩
      have hs := hb1.size
      exact ⟨he, ((hb1.trans hW (by simp)).mono (by simp)).trans hbW (by simp), hes, hbW.heap (w4_3 _ _ _ _ _) (by simp; omega)⟩))
    (fun W hW => hW.2.2)
  subst hw2
  go_enter Try.func8, Try.ntmps8
  go_wp2_with (go_at_call 19; refine hL.mono ?_; rintro e w1 ⟨rfl, w2, ⟨hw2, hw3, hw4⟩, hw1⟩)
  go_ret
  have hs := hb1.size
  have hbut : But [b] w (w2.setCell ⟨w.heap.size + 1 + 1 + 3, 0, none⟩ (.int .i64 0)) := hw2.setCell (.inr (by simp only []; omega)) _
  refine ⟨rfl, hbut, h.free hbut ?_⟩
  obtain ⟨es', he1, he2⟩ := hw3
  refine ⟨es', clock, ?_, he2⟩
  rw [Below.heap_setCell _ _ _ _ (by simp only []; omega)]
  exact he1
end Go.Proofs.Ytmleaogklpogdaa.M
