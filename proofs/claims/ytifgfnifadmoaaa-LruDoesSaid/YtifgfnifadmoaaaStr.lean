/-
  Plain: bytes that a slice shows, as a string; a slice that was just laid out. No program.
-/
import Derived.Test.YtifgfnifadmoaaaHeap
import Derived.Laws.BytesArg
namespace Go.Proofs.Ytifgfnifadmoaaa.M
open Go.RowKit
set_option linter.unusedVariables false
set_option linter.unusedSectionVars false
set_option linter.unusedSimpArgs false
theorem conv_str {P : Program} {w : World} {src dst e : TypeId} (hs : P.underlying src = some (.slice e)) (he : P.underlying e = some (.int .u8)) (hd : P.underlying dst = some .string) {s : Value} {xs : List Int} (h : Sees w s (xs.map (.int .u8))) :
    (convert src dst s).run P w = .ok (.string (strOfNums xs)) w := by
  rcases h with ⟨rfl, h0⟩ | ⟨ad, c, rfl, hc, hx⟩
  · obtain rfl : xs = [] := by simpa using h0
    rw [run_convert_bytes_nil w src e hs he 0 0 dst hd]
    rfl
  · have hl : (loadCells ad xs.length).run P w = .ok (xs.map (Value.int .u8)).toArray w := by
      have := run_loadCells_list (P := P) w ad (xs.map (Value.int .u8)) hx
      simpa using this
    rw [run_convert_bytes_string w src dst e _ _ c hs he hd, List.length_map, run_bytesToString w _ _ c xs hl, foldl_push_bytes]
    simp [strOfNums, ByteArray.empty, ByteArray.emptyWithCapacity]
    rfl
theorem sees_new (w : World) (cs : Array Value) (t : TypeId) (fr : Nat × Nat) (n c : Nat) (hn : n = cs.size) (hc : n ≤ c) : Sees (w.alloc (.cells cs t fr)) (.slice (some ⟨w.heap.size, 0, none⟩) n c) cs.toList := by
  subst hn
  have hb : (w.alloc (.cells cs t fr)).heap[w.heap.size]? = some (.cells cs t fr) := Array.getElem?_push_size
  exact .inr ⟨⟨w.heap.size, 0, none⟩, c, by simp, by simpa using hc, fun j u hu => by
    rw [add_at, Nat.zero_add]
    unfold World.cell?
    rw [hb]
    simpa using hu⟩
theorem calls_val {P : Program} {k : FuncId} {args : Array Value} {w : World} {v v' : Value} {R : World → Prop} (h : Calls P k args w fun e w' => e = .returned v ∧ R w') (hv : v = v') : Calls P k args w fun e w' => e = .returned v' ∧ R w' := by
  subst hv; exact h
end Go.Proofs.Ytifgfnifadmoaaa.M
