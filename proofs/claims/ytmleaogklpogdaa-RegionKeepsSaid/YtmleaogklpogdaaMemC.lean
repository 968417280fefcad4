/-
  The contracts of a memory's table: with; whatever closure is handed over.
-/
import Derived.Test.YtmleaogklpogdaaMemB
namespace Go.Proofs.Ytmleaogklpogdaa.M
open Go.RowKit
set_option linter.unusedVariables false
set_option linter.unusedSectionVars false
set_option linter.unusedSimpArgs false
def nothing : Ending := .returned (.tuple #[])
theorem with_none (B b : Nat) (last n : Int) (es : Array MapEntry) (clock : Nat) (ps : List (Int × Value)) (f : Value) (w : World) (hB : w.heap[B]? = some (.cells #[.map (some b), .int .i64 last] tM)) (hb : w.heap[b]? = some (.map es clock)) (hE : Ents es ps) (hw : ∀ p ∈ ps, Wf p.1) (hn : Wf n) (hne : ∀ p ∈ ps, p.1 ≠ n) :
    Calls Try.prog 25 #[.pointer (some ⟨B, 0, none⟩), .int .i64 n, f] w fun e w' => e = .returned (.bool false) ∧ w = w' := by
  have c0 : w.cell? ⟨B, 0, none⟩ = some (.map (some b)) := by simp [World.cell?, hB]
  have hrun := map_none (P := Try.prog) Try.underlying3 Try.underlying23 hb hE hw hn (z := .pointer none) (by kernel_rfl) hne
  go_enter Try.func25, Try.ntmps25
  go_wp2
  go_ret
  exact ⟨rfl, rfl⟩
theorem with_some (B b c k : Nat) (last n : Int) (es : Array MapEntry) (clock : Nat) (ps : List (Int × Value)) (cap : Array Value) (w : World) (R : World → Prop) (hk : ∀ (args : Array Value) (w : World), (callFunc k args).run Try.prog w = .ok (.enter k args) w) (hB : w.heap[B]? = some (.cells #[.map (some b), .int .i64 last] tM)) (hb : w.heap[b]? = some (.map es clock)) (hE : Ents es ps) (hw : ∀ p ∈ ps, Wf p.1) (hn : Wf n) (hd : (ps.map (·.1)).Nodup) (hv : (n, .pointer (some ⟨c, 0, none⟩)) ∈ ps)
    (hf : Calls Try.prog k (#[.pointer (some ⟨c, 0, none⟩)] ++ cap) w fun e w' => e = nothing ∧ R w') :
    Calls Try.prog 25 #[.pointer (some ⟨B, 0, none⟩), .int .i64 n, .func (.func k) #[] cap] w fun e w' => e = .returned (.bool true) ∧ R w' := by
  have c0 : w.cell? ⟨B, 0, none⟩ = some (.map (some b)) := by simp [World.cell?, hB]
  have hrun := map_get (P := Try.prog) Try.underlying3 Try.underlying23 hb hE hw hn hv hd
  go_enter Try.func25, Try.ntmps25
  go_wp2_with (with_reducible refine hf.mono ?_; rintro e w1 ⟨rfl, hR⟩; unfold nothing)
  go_ret
  exact ⟨rfl, hR⟩
theorem kindF (c e : Nat) (kind : Int) (s v : Value) (w : World) (hc : w.heap[c]? = some (.cells #[.int .u8 kind, s] 51)) (he : w.heap[e]? = some (.cells #[v] 32)) :
    Calls Try.prog 23 (#[.pointer (some ⟨c, 0, none⟩)] ++ #[.pointer (some ⟨e, 0, none⟩)]) w fun x w' => x = nothing ∧ w' = w.setCell ⟨e, 0, none⟩ (.int .u8 kind) := by
  have c0 : w.cell? ⟨c, 0, none⟩ = some (.int .u8 kind) := by simp [World.cell?, hc]
  have c1 : w.cell? ⟨e, 0, none⟩ = some v := by simp [World.cell?, he]
  have f1 : w.frozen? ⟨e, 0, none⟩ = false := by simp [World.frozen?, he]
  show Calls Try.prog 23 #[.pointer (some ⟨c, 0, none⟩), .pointer (some ⟨e, 0, none⟩)] w _
  go_enter Try.func23, Try.ntmps23
  go_wp2
  go_end0
  exact ⟨rfl, rfl⟩
end Go.Proofs.Ytmleaogklpogdaa.M
