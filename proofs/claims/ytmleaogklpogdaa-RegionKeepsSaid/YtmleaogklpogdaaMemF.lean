/-
  The contract of a memory's look: the way on which something is done.
-/
import Derived.Test.YtmleaogklpogdaaMemE
namespace Go.Proofs.Ytmleaogklpogdaa.M
open Go.RowKit
set_option linter.unusedVariables false
set_option linter.unusedSectionVars false
set_option linter.unusedSimpArgs false
theorem look_ok (B b c : Nat) (last n off size : Int) (es : Array MapEntry) (clock : Nat) (ps : List (Int × Value)) (k : Nat) (caps : Array Value) (w : World) (R : World → Prop) (hk : ∀ (args : Array Value) (w : World), (callFunc k args).run Try.prog w = .ok (.enter k args) w) (hB : w.heap[B]? = some (.cells #[.map (some b), .int .i64 last] tM)) (hb : w.heap[b]? = some (.map es clock)) (hE : Ents es ps) (hw : ∀ p ∈ ps, Wf p.1) (hn : Wf n) (hd : (ps.map (·.1)).Nodup) (hv : (n, .pointer (some ⟨c, 0, none⟩)) ∈ ps)
    (kind : Int) (a : Option Addr) (m cap : Nat) (hc : w.heap[c]? = some (.cells #[.int .u8 kind, .slice a m cap] 51)) (hm : m ≤ 1000000000000) (ho : I64 off) (hs : I64 size) (hh : Has off size m = true)
    (hf : Calls Try.prog k (#[.pointer (some ⟨c, 0, none⟩)] ++ caps) (W4 w off size (.func (.func k) #[] caps) 0) fun e w' => e = nothing ∧ R w') (hR : ∀ w', R w' → w'.heap[w.heap.size + 3]? = some (.cells #[.int .i64 0] 29)) :
    Calls Try.prog 19 #[.pointer (some ⟨B, 0, none⟩), .int .i64 n, .int .i64 off, .int .i64 size, .func (.func k) #[] caps] w fun e w' => e = .returned (.int .i64 0) ∧ ∃ w1, R w1 ∧ w' = w1.setCell ⟨w.heap.size + 3, 0, none⟩ (.int .i64 0) := by
  have hB4 := (w4_but w off size (.func (.func k) #[] caps) 0).heap hB (by simp)
  have hb4 := (w4_but w off size (.func (.func k) #[] caps) 0).heap hb (by simp)
  have hc4 := (w4_but w off size (.func (.func k) #[] caps) 0).heap hc (by simp)
  have hF := with_some B b c 26 last n es clock ps _ _ R (fun args w => by kernel_rfl) hB4 hb4 hE hw hn hd hv (lookF_yes c _ _ (w.heap.size + 2) (w.heap.size + 3) k kind off size a m cap caps _ R hk hc4 (w4_0 w off size _ 0) (w4_1 w off size _ 0) (w4_2 w off size _ 0) hm ho hs hh hf)
  go_enter Try.func19, Try.ntmps19
  go_wp2_with (first | (go_at_call 16; refine (known B (some b) _ (cell_of hB4 0)).mono ?_; rintro e w1 ⟨rfl, rfl⟩) | (go_at_call 25; refine hF.mono ?_; rintro e w1 ⟨rfl, hR1⟩; have c3 : w1.cell? ⟨w.heap.size + 1 + 1 + 1, 0, none⟩ = some (.int .i64 0) := cell_of (hR _ hR1) 0; have f3 : w1.frozen? ⟨w.heap.size + 1 + 1 + 1, 0, none⟩ = false := frozen_of (hR _ hR1) 0))
  trace_state
  refine bodyPost_ret (ret_cell1 rfl rfl (by kernel_rfl) (World.cell?_setCell_same _ _ _ c3)) rfl ?_
  exact ⟨rfl, w1, hR1, rfl⟩
end Go.Proofs.Ytmleaogklpogdaa.M
