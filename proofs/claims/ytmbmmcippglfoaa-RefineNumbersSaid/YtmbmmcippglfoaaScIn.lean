/-
  A scalar that comes in; words that come in.
-/
import Derived.Test.YtmbmmcippglfoaaGC
import Derived.Test.YtmbmmcippglfoaaProg
import Derived.Test.YtmbmmcippglfoaaGG
import Derived.OpenShut
import Derived.WalkKit
import Derived.ProofKit
import Derived.Lib.SmallJoins
namespace Go.Proofs.Ytmbmmcippglfoaa.M
open Go.RowKit Go.Deep Go.ChangeShapes Go.WideShapes Go.ChangeAt
set_option linter.unusedVariables false
set_option linter.unusedSectionVars false
set_option linter.unusedSimpArgs false
theorem wf_u64n {n : Int} (h : (Lit.int .u64 n).wf = true) : ∃ m : Nat, n = (m : Int) ∧ m < 18446744073709551616 := by
  have h2 : IntKind.u64.min ≤ n ∧ n ≤ IntKind.u64.max := by simpa [Lit.wf] using h
  rw [show IntKind.u64.min = 0 from rfl, show IntKind.u64.max = 18446744073709551615 from rfl] at h2
  exact ⟨n.toNat, by omega, by omega⟩
theorem wf_u8n {n : Int} (h : (Lit.int .u8 n).wf = true) : ∃ m : Nat, n = (m : Int) ∧ m < 256 := by
  have h2 : IntKind.u8.min ≤ n ∧ n ≤ IntKind.u8.max := by simpa [Lit.wf] using h
  rw [show IntKind.u8.min = 0 from rfl, show IntKind.u8.max = 255 from rfl] at h2
  exact ⟨n.toNat, by omega, by omega⟩
theorem wf_i64b {n : Int} (h : (Lit.int .i64 n).wf = true) : -9223372036854775808 ≤ n ∧ n ≤ 9223372036854775807 := by
  have h2 : IntKind.i64.min ≤ n ∧ n ≤ 9223372036854775807 := by simpa [Lit.wf] using h
  rw [show IntKind.i64.min = -9223372036854775808 from rfl] at h2
  exact h2
section
variable {H : Type} {enc : TypeId × Value → H} {w : World}
set_option maxRecDepth 100000 in
theorem scalar_in {base : Nat} {v : Value} {d : DataW H} {ps : List MemPlace} (hval : Value.okWide Try.prog w .any base 28 v) (h : DataW.Trod enc Try.prog w 0 (fun _ => true) true 28 v d ps) (hsz : ∀ n ∈ d.weights Try.prog 28, n ≤ reachBytes) :
    ∃ s : Sc, v = s.val ∧ Rg s := by
  have hC : Try.prog.cellsOf 28 = 6 := by kernel_rfl
  obtain ⟨cs, rfl, hs⟩ := okWide_struct Try.underlying28 hval
  rw [hC] at hs
  obtain ⟨cs⟩ := cs
  match cs, hs with
  | [x0, x1, x2, x3, x4, x5], _ =>
    obtain ⟨fuel, hf⟩ := h
    obtain ⟨y0, y1, n, _, _, h0, h1⟩ := trod_struct2 Try.underlying28 hf
    have e0 : Try.prog.cellsOf 24 = 2 := by kernel_rfl
    have e1 : Try.prog.cellsOf 26 = 4 := by kernel_rfl
    have eu : Try.prog.cellsOf 22 = 1 := by kernel_rfl
    have ei : Try.prog.cellsOf 2 = 1 := by kernel_rfl
    replace h0 : DataW.trod enc Try.prog w 0 (fun _ => true) true n 24 (([x0, x1, x2, x3, x4, x5].drop 0).take (Try.prog.cellsOf 24)) = some y0 := h0
    rw [e0] at h0
    replace h1 : DataW.trod enc Try.prog w 0 (fun _ => true) true n 26 (([x0, x1, x2, x3, x4, x5].drop 2).take (Try.prog.cellsOf 26)) = some y1 := h1
    rw [e1] at h1
    obtain ⟨z0, z1, n2, _, _, q0, q1⟩ := trod_struct2 Try.underlying24 h0
    replace q0 : DataW.trod enc Try.prog w 0 (fun _ => true) true n2 22 (([x0, x1].drop 0).take (Try.prog.cellsOf 22)) = some z0 := q0
    rw [eu] at q0
    replace q1 : DataW.trod enc Try.prog w 0 (fun _ => true) true n2 22 (([x0, x1].drop 1).take (Try.prog.cellsOf 22)) = some z1 := q1
    rw [eu] at q1
    obtain ⟨t0, t1, t2, t3, n3, _, _, r0, r1, r2, r3⟩ := Joins.trod_struct4 Try.underlying26 h1
    replace r0 : DataW.trod enc Try.prog w 0 (fun _ => true) true n3 22 (([x2, x3, x4, x5].drop 0).take (Try.prog.cellsOf 22)) = some t0 := r0
    rw [eu] at r0
    replace r1 : DataW.trod enc Try.prog w 0 (fun _ => true) true n3 22 (([x2, x3, x4, x5].drop 1).take (Try.prog.cellsOf 22)) = some t1 := r1
    rw [eu] at r1
    replace r2 : DataW.trod enc Try.prog w 0 (fun _ => true) true n3 2 (([x2, x3, x4, x5].drop 2).take (Try.prog.cellsOf 2)) = some t2 := r2
    rw [ei] at r2
    replace r3 : DataW.trod enc Try.prog w 0 (fun _ => true) true n3 2 (([x2, x3, x4, x5].drop 3).take (Try.prog.cellsOf 2)) = some t3 := r3
    rw [ei] at r3
    obtain ⟨_, rfl, w0⟩ := int_cell Try.underlying22 q0
    obtain ⟨_, rfl, w1⟩ := int_cell Try.underlying22 q1
    obtain ⟨_, rfl, w2⟩ := int_cell Try.underlying22 r0
    obtain ⟨_, rfl, w3⟩ := int_cell Try.underlying22 r1
    obtain ⟨sl, rfl, w4⟩ := int_cell Try.underlying2 r2
    obtain ⟨sh, rfl, w5⟩ := int_cell Try.underlying2 r3
    obtain ⟨v, rfl, b0⟩ := wf_u64n w0
    obtain ⟨m, rfl, b1⟩ := wf_u64n w1
    obtain ⟨lo, rfl, b2⟩ := wf_u64n w2
    obtain ⟨hi, rfl, b3⟩ := wf_u64n w3
    exact ⟨⟨⟨v, m⟩, ⟨lo, hi, sl, sh⟩⟩, rfl, b0, b1, b2, b3, (wf_i64b w4).1, (wf_i64b w5).2⟩
end
end Go.Proofs.Ytmbmmcippglfoaa.M
