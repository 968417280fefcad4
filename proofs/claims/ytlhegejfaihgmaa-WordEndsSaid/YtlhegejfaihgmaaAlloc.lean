/-
  Plain: what was just laid (as SpecAny has it; for seats without kinds).
-/
import Derived.Test.YtlhegejfaihgmaaHeap
namespace Go.Proofs.Ytlhegejfaihgmaa.M
open Go.RowKit
theorem al_at (w : World) (o : Obj) : (w.alloc o).heap[w.heap.size]? = some o := Array.getElem?_push_size
theorem al_eq (w : World) (o : Obj) (q : Nat) (h : w.heap.size = q) : (w.alloc o).heap[q]? = some o := by
  subst h; exact al_at w o
theorem al_keep {w : World} {k : Nat} {o : Obj} (h : w.heap[k]? = some o) (o' : Obj) : (w.alloc o').heap[k]? = some o := by
  rw [Below.heap_alloc w o' k (lt_of h)]; exact h
theorem cl_of {w : World} {k : Nat} {cs : Array Value} {t : TypeId} (h : w.heap[k]? = some (.cells cs t)) (j : Nat) : w.cell? ⟨k, j, none⟩ = cs[j]? := by
  unfold World.cell?; rw [h]; rfl
end Go.Proofs.Ytlhegejfaihgmaa.M
