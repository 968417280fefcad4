/-
  The contract of a memory's look: the closure inside it, and its five ways.
-/
import Derived.Test.YtmleaogklpogdaaMemC
import Derived.Laws.ResultCell
namespace Go.Proofs.Ytmleaogklpogdaa.M
open Go.RowKit
set_option linter.unusedVariables false
set_option linter.unusedSectionVars false
set_option linter.unusedSimpArgs false
def I64 (n : Int) : Prop := -9223372036854775808 ≤ n ∧ n ≤ 9223372036854775807
theorem lookF_no (c p q r e : Nat) (kind off size : Int) (a : Option Addr) (n cap : Nat) (v : Value) (w : World) (hc : w.heap[c]? = some (.cells #[.int .u8 kind, .slice a n cap] 51)) (hp : w.heap[p]? = some (.cells #[.int .i64 off] 2)) (hq : w.heap[q]? = some (.cells #[.int .i64 size] 3)) (he : w.heap[e]? = some (.cells #[v] 29))
    (hn : n ≤ 1000000000000) (ho : I64 off) (hs : I64 size) (hh : Has off size n = false) :
    Calls Try.prog 26 (#[.pointer (some ⟨c, 0, none⟩)] ++ #[.pointer (some ⟨p, 0, none⟩), .pointer (some ⟨q, 0, none⟩), .pointer (some ⟨e, 0, none⟩), .pointer (some ⟨r, 0, none⟩)]) w fun x w' => x = nothing ∧ w' = w.setCell ⟨e, 0, none⟩ (.int .i64 32) := by
  have c1 : w.cell? ⟨c, 1, none⟩ = some (.slice a n cap) := by simp [World.cell?, hc]
  have cp : w.cell? ⟨p, 0, none⟩ = some (.int .i64 off) := by simp [World.cell?, hp]
  have cq : w.cell? ⟨q, 0, none⟩ = some (.int .i64 size) := by simp [World.cell?, hq]
  have ce : w.cell? ⟨e, 0, none⟩ = some v := by simp [World.cell?, he]
  have fe : w.frozen? ⟨e, 0, none⟩ = false := by simp [World.frozen?, he]
  have HH := Lib.hid hh
  show Calls Try.prog 26 #[.pointer (some ⟨c, 0, none⟩), .pointer (some ⟨p, 0, none⟩), .pointer (some ⟨q, 0, none⟩), .pointer (some ⟨e, 0, none⟩), .pointer (some ⟨r, 0, none⟩)] w _
  go_enter Try.func26, Try.ntmps26
  go_wp2_with (go_at_call 27; refine (has c a n cap off size w c1 hn ho hs).mono ?_; rintro x w1 ⟨rfl, rfl⟩; rw [HH.out])
  refine bodyPost_ret (results_none rfl _ _ _) rfl ?_
  exact ⟨rfl, rfl⟩
theorem lookF_yes (c p q r e k : Nat) (kind off size : Int) (a : Option Addr) (n cap : Nat) (caps : Array Value) (w : World) (R : World → Prop) (hk : ∀ (args : Array Value) (w : World), (callFunc k args).run Try.prog w = .ok (.enter k args) w) (hc : w.heap[c]? = some (.cells #[.int .u8 kind, .slice a n cap] 51)) (hp : w.heap[p]? = some (.cells #[.int .i64 off] 2)) (hq : w.heap[q]? = some (.cells #[.int .i64 size] 3)) (hr : w.heap[r]? = some (.cells #[.func (.func k) #[] caps] 53))
    (hn : n ≤ 1000000000000) (ho : I64 off) (hs : I64 size) (hh : Has off size n = true) (hf : Calls Try.prog k (#[.pointer (some ⟨c, 0, none⟩)] ++ caps) w fun e w' => e = nothing ∧ R w') :
    Calls Try.prog 26 (#[.pointer (some ⟨c, 0, none⟩)] ++ #[.pointer (some ⟨p, 0, none⟩), .pointer (some ⟨q, 0, none⟩), .pointer (some ⟨e, 0, none⟩), .pointer (some ⟨r, 0, none⟩)]) w fun x w' => x = nothing ∧ R w' := by
  have c1 : w.cell? ⟨c, 1, none⟩ = some (.slice a n cap) := by simp [World.cell?, hc]
  have cp : w.cell? ⟨p, 0, none⟩ = some (.int .i64 off) := by simp [World.cell?, hp]
  have cq : w.cell? ⟨q, 0, none⟩ = some (.int .i64 size) := by simp [World.cell?, hq]
  have cr : w.cell? ⟨r, 0, none⟩ = some (.func (.func k) #[] caps) := by simp [World.cell?, hr]
  have HH := Lib.hid hh
  show Calls Try.prog 26 #[.pointer (some ⟨c, 0, none⟩), .pointer (some ⟨p, 0, none⟩), .pointer (some ⟨q, 0, none⟩), .pointer (some ⟨e, 0, none⟩), .pointer (some ⟨r, 0, none⟩)] w _
  go_enter Try.func26, Try.ntmps26
  go_wp2_with (first | (go_at_call 27; refine (has c a n cap off size w c1 hn ho hs).mono ?_; rintro x w1 ⟨rfl, rfl⟩; rw [HH.out]) | (with_reducible refine hf.mono ?_; rintro e w1 ⟨rfl, hR⟩; unfold nothing))
  go_end0
  exact ⟨rfl, hR⟩
end Go.Proofs.Ytmleaogklpogdaa.M
