/-
  lru's chain: begin, put, out, of any addresses.
-/
import Derived.Test.YtifgfnifadmoaaaHeap
import Derived.Test.YtifgfnifadmoaaaAlloc
import Derived.Deep.DeepCutAuto
import Derived.Deep.CutBlock
import Derived.Test.YtifgfnifadmoaaaProg
import Derived.WalkKit
import Derived.ProofKit
import Derived.StillTailTactics
import Derived.Deep.QuietTactic
import Derived.BigQuiet
import Derived.Deep.DrawnRows
namespace Go.Proofs.Ytifgfnifadmoaaa.M
open Go.RowKit
set_option linter.unusedVariables false
set_option linter.unusedSectionVars false
set_option linter.unusedSimpArgs false
theorem wp_region_tail9 {P : Program} {id : Nat} {Q : Exit → Act → World → Prop} {a : Act} {w : World} {l : List Oper} (n : Nat) (hm : P.follows .mixedOrders = true) (hB : Region.lexTailB .any l.toArray n = true)
    (h : wpStill P l.toArray w.drew (fun a' => wpList P l.toArray Q (l.drop n) a' w.drew) (l.take n) a) : (Code.region id l.toArray true).wp P Q a w := wp_region_still_tail n hm hB h
/-- Two cells are set. -/
def two (w : World) (b1 o1 : Nat) (v1 : Value) (b2 o2 : Nat) (v2 : Value) : World := (w.setCell ⟨b1, o1, none⟩ v1).setCell ⟨b2, o2, none⟩ v2
/-- There is a cell that may be written. -/
def Cell1 (w : World) (b o : Nat) : Prop := ∃ C T, w.heap[b]? = some (.cells C T (0, 0)) ∧ o < C.size
theorem Cell1.cell {w : World} {b o : Nat} (h : Cell1 w b o) : ∃ v, w.cell? ⟨b, o, none⟩ = some v := by
  obtain ⟨C, T, h1, h2⟩ := h
  exact ⟨C[o], by rw [cl_of h1]; exact Array.getElem?_eq_getElem h2⟩
theorem Cell1.frozen {w : World} {b o : Nat} (h : Cell1 w b o) : w.frozen? ⟨b, o, none⟩ = false := by
  obtain ⟨C, T, h1, h2⟩ := h
  unfold World.frozen?
  rw [h1]
  simp
theorem heap_setC {w : World} {g p : Nat} {cs : Array Value} {t : TypeId} {f : Nat × Nat} {v : Value} (h : w.heap[g]? = some (.cells cs t f)) : (w.setCell ⟨g, p, none⟩ v).heap[g]? = some (.cells (cs.set! p v) t f) := by
  simp [World.setCell, Array.getElem?_modify, h]
theorem heap_setN {w : World} {g b p : Nat} {v : Value} (h : g ≠ b) : (w.setCell ⟨g, p, none⟩ v).heap[b]? = w.heap[b]? := by
  simp [World.setCell, Array.getElem?_modify, h]
theorem Cell1.set {w : World} {b o : Nat} (h : Cell1 w b o) (b' o' : Nat) (v : Value) : Cell1 (w.setCell ⟨b', o', none⟩ v) b o := by
  obtain ⟨C, T, h1, h2⟩ := h
  by_cases e : b' = b
  · subst e
    exact ⟨_, T, heap_setC h1, by simpa using h2⟩
  · exact ⟨C, T, by rw [heap_setN e]; exact h1, h2⟩
theorem Cell1.drew {w : World} {b o : Nat} (h : Cell1 w b o) : Cell1 w.drew b o := h
set_option maxRecDepth 100000 in
set_option maxHeartbeats 1000000 in
theorem out_c (x a ao c co : Nat) (w : World) (hp : w.cell? ⟨x, 2, none⟩ = some (.pointer (some ⟨a, ao, none⟩))) (hn : w.cell? ⟨x, 3, none⟩ = some (.pointer (some ⟨c, co, none⟩)))
    (ha : Cell1 w a (ao + 3)) (hc : Cell1 w c (co + 2)) :
    Calls Try.prog 47 #[.pointer (some ⟨x, 0, none⟩)] w fun e w' => e = .returned (.tuple #[]) ∧ w' = (two w a (ao + 3) (.pointer (some ⟨c, co, none⟩)) c (co + 2) (.pointer (some ⟨a, ao, none⟩))).drew := by
  obtain ⟨va, h1⟩ := ha.cell
  have h2 := ha.frozen
  have hcs := hc.set a (ao + 3) (.pointer (some ⟨c, co, none⟩))
  obtain ⟨vc, h3⟩ := hcs.cell
  have h4 := hcs.frozen
  clear ha hc hcs
  go_enter Try.func47, Try.ntmps47
  refine wp_region_tail9 16 (by kernel_rfl) (by kernel_rfl) ?_
  simp only [List.take_succ_cons, List.take_zero, List.drop_succ_cons, List.drop_zero]
  repeat still_step
  refine wpStill_nil ?_
  go_wp2_with fail
  go_end0
  exact ⟨rfl, rfl⟩
set_option maxRecDepth 100000 in
set_option maxHeartbeats 1000000 in
theorem begin_c (p po : Nat) (w : World) (h1 : Cell1 w p (po + 2)) (h2 : Cell1 w p (po + 3)) :
    Calls Try.prog 31 #[.pointer (some ⟨p, po, none⟩)] w fun e w' => e = .returned (.tuple #[]) ∧ w' = (two w p (po + 2) (.pointer (some ⟨p, po, none⟩)) p (po + 3) (.pointer (some ⟨p, po, none⟩))).drew := by
  obtain ⟨va, a1⟩ := h1.cell
  have a2 := h1.frozen
  have hcs := h2.set p (po + 2) (.pointer (some ⟨p, po, none⟩))
  obtain ⟨vc, a3⟩ := hcs.cell
  have a4 := hcs.frozen
  clear h1 h2 hcs
  go_enter Try.func31, Try.ntmps31
  go_region
  all_goals
    go_wp2_with fail
    go_end0
    exact ⟨rfl, rfl⟩
set_option maxRecDepth 100000 in
set_option maxHeartbeats 1000000 in
theorem put_c (p po x a ao : Nat) (w : World) (hp : w.cell? ⟨p, po + 2, none⟩ = some (.pointer (some ⟨a, ao, none⟩))) (h2 : Cell1 w x 2) (h3 : Cell1 w x 3) (ha : Cell1 w a (ao + 3)) (hr : Cell1 w p (po + 2)) :
    Calls Try.prog 35 #[.pointer (some ⟨p, po, none⟩), .pointer (some ⟨x, 0, none⟩)] w fun e w' => e = .returned (.tuple #[]) ∧ w' = (two (two w x 2 (.pointer (some ⟨a, ao, none⟩)) x 3 (.pointer (some ⟨p, po, none⟩))) a (ao + 3) (.pointer (some ⟨x, 0, none⟩)) p (po + 2) (.pointer (some ⟨x, 0, none⟩))).drew.drew := by
  obtain ⟨v2, a1⟩ := h2.cell
  have a2 := h2.frozen
  have b3 := h3.set x 2 (.pointer (some ⟨a, ao, none⟩))
  obtain ⟨v3, a3⟩ := b3.cell
  have a4 := b3.frozen
  have h2s := (h2.set x 2 (.pointer (some ⟨a, ao, none⟩))).set x 3 (.pointer (some ⟨p, po, none⟩))
  have ba := ((ha.set x 2 (.pointer (some ⟨a, ao, none⟩))).set x 3 (.pointer (some ⟨p, po, none⟩)))
  have br := ((hr.set x 2 (.pointer (some ⟨a, ao, none⟩))).set x 3 (.pointer (some ⟨p, po, none⟩))).set a (ao + 3) (.pointer (some ⟨x, 0, none⟩))
  have c2 : ((w.setCell ⟨x, 2, none⟩ (.pointer (some ⟨a, ao, none⟩))).setCell ⟨x, 3, none⟩ (.pointer (some ⟨p, po, none⟩))).cell? ⟨x, 2, none⟩ = some (.pointer (some ⟨a, ao, none⟩)) := by
    obtain ⟨C, T, k1, k2⟩ := h2
    rw [cl_of (heap_setC (heap_setC k1))]
    simp [k2]
  have c3 : ((w.setCell ⟨x, 2, none⟩ (.pointer (some ⟨a, ao, none⟩))).setCell ⟨x, 3, none⟩ (.pointer (some ⟨p, po, none⟩))).cell? ⟨x, 3, none⟩ = some (.pointer (some ⟨p, po, none⟩)) := by
    obtain ⟨C, T, k1, k2⟩ := h3
    rw [cl_of (heap_setC (heap_setC k1))]
    simp [k2]
  obtain ⟨v5, a5⟩ := ba.cell
  have a6 := ba.frozen
  obtain ⟨v7, a7⟩ := br.cell
  have a8 := br.frozen
  clear h2 h3 ha hr b3 h2s ba br
  go_enter Try.func35, Try.ntmps35
  go_upto_region 0 with fail
  go_region
  all_goals
    go_upto_region 1 with fail
    go_region
    all_goals
      go_wp2_with fail
      go_end0
      exact ⟨rfl, rfl⟩
end Go.Proofs.Ytifgfnifadmoaaa.M
