/-
  'RingOrder' tells true: the walk.
-/
import Derived.Test.YtlajffbjkgedhaaRingAwake
import Derived.Test.YtlajffbjkgedhaaDo
import Derived.Test.YtlajffbjkgedhaaQue
import Derived.Test.YtlajffbjkgedhaaPick
namespace Go.Proofs.Ytlajffbjkgedhaa.M
open Go.RowKit
set_option linter.unusedVariables false
set_option linter.unusedSectionVars false
set_option linter.unusedSimpArgs false
/-- What stands at the head of a round. -/
def OrdS (w : World) (base R : Nat) (size : Int) (k : Nat) (all left : Value) (wr : World) (ls : List Lk) (vals : List Value) : Prop :=
  RingS wr base R size ls ∧ used ls ≤ size ∧ left = .int .i64 (size - used ls) ∧ OwnQ wr 36 all vals ∧ vals.length = ls.length ∧ vals.length ≤ k ∧
    (∀ (j : Nat) (v : Value) (x : Lk), vals[j]? = some v → ls[j]? = some x → Sees w v x.bs ∧ IsBytes x.bs ∧ x.bs.length ≤ 1000000) ∧ (∀ k, all.ownBlock = some k → base ≤ k) ∧ But [] w wr
theorem map_int {xs : List Value} (h : IsBytes xs) : ∃ ns : List Int, xs = ns.map (.int .u8) := by
  induction xs with
  | nil => exact ⟨[], rfl⟩
  | cons x xs ih =>
    obtain ⟨ns, rfl⟩ := ih (fun u hu => h u (by simp [hu]))
    obtain ⟨n, rfl⟩ := h x (by simp)
    exact ⟨n :: ns, rfl⟩
/-- Two slices that show the same bytes are the same. -/
theorem same_yes (s t : Value) (xs : List Value) (w : World) (hs : Sees w s xs) (ht : Sees w t xs) (h1 : IsBytes xs) (hl : xs.length ≤ 1000000000000) :
    Calls Try.prog 14 #[s, t] w fun e w' => e = .returned (.bool true) ∧ But [] w w' := by
  obtain ⟨ns, rfl⟩ := map_int h1
  refine (same s t ns ns w hs ht (by simpa using hl)).mono ?_
  rintro e w' ⟨rfl, hb⟩
  exact ⟨by simp, hb⟩
theorem OwnQ.apart {w : World} {all : Value} {vals : List Value} (h : OwnQ w 36 all vals) {base R : Nat} {n : Int} {ls : List Lk} (hS : RingS w base R n ls) : ∀ k, all.ownBlock = some k → k ∉ R :: ls.map Lk.blk := by
  intro k hk hm
  obtain ⟨cur, hg⟩ := h.tag k hk
  rcases List.mem_cons.1 hm with rfl | hm
  · obtain ⟨l, h1, _⟩ := hS.cell
    rw [h1] at hg
    simp only [Option.some.injEq, Obj.cells.injEq] at hg
    exact absurd hg.2.1 (by decide)
  · obtain ⟨x, hx, rfl⟩ := List.mem_map.1 hm
    obtain ⟨q, h1, _⟩ := hS.links.at x hx
    rw [h1] at hg
    simp only [Option.some.injEq, Obj.cells.injEq] at hg
    exact absurd hg.2.1 (by decide)
/-- The ring, behind an append to what is kept. -/
theorem RingS.grown {w w' : World} {base R : Nat} {n : Int} {ls : List Lk} {all : Value} {vals : List Value} (hS : RingS w base R n ls) (h : OwnQ w 36 all vals) (hg : w.grownBy w' all.ownBlock) : RingS w' base R n ls := by
  have hb : But all.ownBlock.toList w w' := ((But.refl _ w).grown hg (fun k hk => .inl (by rw [hk]; simp)))
  have ha := h.apart hS
  refine hS.but hb (fun hm => ?_) (fun x hx => ⟨fun hm => ?_, fun k hk hm => ?_⟩)
  · exact ha R (by simpa using hm) (by simp)
  · exact ha x.blk (by simpa using hm) (List.mem_cons_of_mem _ (List.mem_map.2 ⟨x, hx, rfl⟩))
  · obtain ⟨cur, hg2⟩ := h.tag k (by simpa using hm)
    obtain ⟨q, h1, h2⟩ := hS.links.at x hx
    exact h2.off hk hg2 (by decide)
theorem ordS_put {w : World} {base R : Nat} {size : Int} {k : Nat} {all left : Value} {wr w1 w2 : World} {ls : List Lk} {vals : List Value} {z : Lk} {all' s : Value} {o : Obj}
    (h : OrdS w base R size k all left wr ls vals) (hbase : w.heap.size ≤ base) (hS : RingS w1 base R size (ls ++ [z])) (hb : But (R :: ls.map Lk.blk) wr w1) (hu : 8 + z.bs.length + used ls ≤ size)
    (hz : Sees w s z.bs) (hz1 : IsBytes z.bs) (hz2 : z.bs.length ≤ 1000000) (hQ : OwnQ w2 36 all' (vals ++ [s])) (hg : (w1.alloc o).grownBy w2 all.ownBlock) (hat : all'.ownBlock = all.ownBlock ∨ all'.ownBlock = some (w1.heap.size + 1)) :
    OrdS w base R size (k + 1) all' (.int .i64 (size - used ls - 8 - z.bs.length)) w2 (ls ++ [z]) (vals ++ [s]) := by
  obtain ⟨h1, h2, h3, h4, h5, h6, h7, h8, h9⟩ := h
  have hq1 : OwnQ w1 36 all vals := h4.but hb (h4.apart h1)
  have hq2 : OwnQ (w1.alloc o) 36 all vals := hq1.but ((But.refl [] _).alloc o) (by simp)
  have hb1 : But [] w w1 := h9.trans hb (fun x hx => .inr (by have := h1.tops x hx; omega))
  refine ⟨(hS.keep ((But.refl [] _).alloc o)).grown hq2 hg, by rw [used_snoc]; omega, by rw [used_snoc]; congr 1; omega, hQ, by simp [h5], by simp; omega, fun j v x hv hx => ?_, fun k hk => ?_, ?_⟩
  · by_cases hj : j < vals.length
    · rw [List.getElem?_append_left hj] at hv
      rw [List.getElem?_append_left (by omega)] at hx
      exact h7 j v x hv hx
    · rw [List.getElem?_append_right (by omega)] at hv
      rw [List.getElem?_append_right (by omega), ← h5] at hx
      cases hjj : j - vals.length with
      | zero =>
        rw [hjj] at hv hx
        simp only [List.getElem?_cons_zero, Option.some.injEq] at hv hx
        subst hv; subst hx
        exact ⟨hz, hz1, hz2⟩
      | succ m => rw [hjj] at hv; simp at hv
  · rcases hat with e | e
    · exact h8 k (e ▸ hk)
    · rw [e] at hk
      cases hk
      have := hS.lt
      have := h1.hbase
      omega
  · exact (hb1.alloc o).trans ((But.refl _ _).grown (L := all.ownBlock.toList) hg (fun k hk => .inl (by rw [hk]; simp))) (fun x hx => .inr (by have := h8 x (by simpa using hx); omega))
theorem ordS_new {w w' : World} {base R : Nat} {size : Int} {k k' : Nat} {all left : Value} {wr : World} {ls : List Lk} {vals : List Value} (h : OrdS w base R size k all left wr ls vals) (hb : But [] wr w') (hk : k ≤ k') : OrdS w base R size k' all left w' ls vals := by
  obtain ⟨h1, h2, h3, h4, h5, h6, h7, h8, h9⟩ := h
  exact ⟨h1.keep hb, h2, h3, h4.but hb (by simp), h5, by omega, h7, h8, h9.trans hb (by simp)⟩
theorem ordS_take {w : World} {base R : Nat} {size : Int} {k : Nat} {all all' left : Value} {wr w1 : World} {x : Lk} {ls : List Lk} {v : Value} {vals : List Value}
    (h : OrdS w base R size k all left wr (x :: ls) (v :: vals)) (hbase : w.heap.size ≤ base) (hS : RingS w1 base R size ls) (hb : But [R] wr w1) (hQ : OwnQ w1 36 all' vals) (hat : ∀ k, all'.ownBlock = some k → base ≤ k) :
    OrdS w base R size k all' (.int .i64 (size - used ls)) w1 ls vals := by
  obtain ⟨h1, h2, h3, h4, h5, h6, h7, h8, h9⟩ := h
  refine ⟨hS, by rw [used_cons] at h2; have := used_nonneg ls; omega, rfl, hQ, by simpa using h5, by simp at h6; omega, fun j u y hu hy => h7 (j + 1) u y (by simpa using hu) (by simpa using hy), hat, h9.trans hb (fun y hy => .inr (by simp at hy; have := h1.hbase; omega))⟩
end Go.Proofs.Ytlajffbjkgedhaa.M
