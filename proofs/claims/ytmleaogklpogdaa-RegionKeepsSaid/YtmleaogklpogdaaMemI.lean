/-
  What is done with a part: the closures' contracts.
-/
import Derived.Test.YtmleaogklpogdaaMemH
namespace Go.Proofs.Ytmleaogklpogdaa.M
open Go.RowKit
set_option linter.unusedVariables false
set_option linter.unusedSectionVars false
set_option linter.unusedSimpArgs false
theorem sizeF (c e : Nat) (kind : Int) (a : Option Addr) (n cap : Nat) (v : Value) (w : World) (hc : w.heap[c]? = some (.cells #[.int .u8 kind, .slice a n cap] 51)) (he : w.heap[e]? = some (.cells #[v] 3)) :
    Calls Try.prog 24 (#[.pointer (some ⟨c, 0, none⟩)] ++ #[.pointer (some ⟨e, 0, none⟩)]) w fun x w' => x = nothing ∧ w' = w.setCell ⟨e, 0, none⟩ (.int .i64 n) := by
  have c0 : w.cell? ⟨c, 1, none⟩ = some (.slice a n cap) := cell_of hc 1
  have c1 : w.cell? ⟨e, 0, none⟩ = some v := cell_of he 0
  have f1 : w.frozen? ⟨e, 0, none⟩ = false := frozen_of he 0
  show Calls Try.prog 24 #[.pointer (some ⟨c, 0, none⟩), .pointer (some ⟨e, 0, none⟩)] w _
  go_enter Try.func24, Try.ntmps24
  go_wp2
  go_end0
  exact ⟨rfl, rfl⟩
theorem freeF (B b p q : Nat) (last n : Int) (v : Value) (es : Array MapEntry) (clock : Nat) (ps : List (Int × Value)) (x : Value) (w : World) (hB : w.heap[B]? = some (.cells #[.map (some b), .int .i64 last] tM)) (hb : w.heap[b]? = some (.map es clock)) (hE : Ents es ps) (hw : ∀ p ∈ ps, Wf p.1) (hn : Wf n) (hd : (ps.map (·.1)).Nodup) (hv : (n, v) ∈ ps)
    (hp : w.heap[p]? = some (.cells #[.pointer (some ⟨B, 0, none⟩)] 22)) (hq : w.heap[q]? = some (.cells #[.int .i64 n] 3)) :
    Calls Try.prog 22 (#[x] ++ #[.pointer (some ⟨p, 0, none⟩), .pointer (some ⟨q, 0, none⟩)]) w fun e w' => e = nothing ∧ But [b] w w' ∧ ∃ es', w'.heap[b]? = some (.map es' clock) ∧ Ents es' (ps.filter (fun p => p.1 != n)) := by
  have c0 : w.cell? ⟨p, 0, none⟩ = some (.pointer (some ⟨B, 0, none⟩)) := cell_of hp 0
  have c1 : w.cell? ⟨q, 0, none⟩ = some (.int .i64 n) := cell_of hq 0
  have c2 : w.cell? ⟨B, 0, none⟩ = some (.map (some b)) := cell_of hB 0
  have hb2 : w.drew.heap[b]? = some (.map es clock) := hb
  obtain ⟨es', hrun, hE'⟩ := map_del (P := Try.prog) (w := w.drew) Try.underlying3 Try.underlying23 hb2 hE hw hn hv hd 0
  show Calls Try.prog 22 #[x, .pointer (some ⟨p, 0, none⟩), .pointer (some ⟨q, 0, none⟩)] w _
  go_enter Try.func22, Try.ntmps22
  go_wp2
  go_region
  all_goals
    go_end0
    exact ⟨rfl, ((But.refl [b] w).drew).setBlock hb2 (.inl (by simp)) _, es', ChangeMaps.heap_setBlock_same hb2 _, hE'⟩
end Go.Proofs.Ytmleaogklpogdaa.M
