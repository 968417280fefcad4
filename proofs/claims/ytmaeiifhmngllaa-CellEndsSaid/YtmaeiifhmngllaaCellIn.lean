/-
  A cell that comes in.
-/
import Derived.Test.YtmaeiifhmngllaaCellSp
import Derived.Test.YtmaeiifhmngllaaProg
import Derived.Test.YtmaeiifhmngllaaOpen
import Derived.Test.YtmaeiifhmngllaaOpenS
import Derived.OpenShut
import Derived.WalkKit
import Derived.ProofKit
import Derived.Lib.SmallJoins
namespace Go.Proofs.Ytmaeiifhmngllaa.M
open Go.RowKit Go.Deep Go.ChangeShapes Go.WideShapes Go.ChangeAt
set_option linter.unusedVariables false
set_option linter.unusedSectionVars false
set_option linter.unusedSimpArgs false
def CellWf (c : CV) : Prop := (Lit.int .u8 c.k).wf = true ∧ (Lit.int .u64 c.w).wf = true ∧ (Lit.int .i64 c.r).wf = true ∧ (Lit.int .i64 c.o).wf = true
section
variable {H : Type} {enc : TypeId × Value → H} {w : World}
set_option maxRecDepth 100000 in
theorem cell_in {base : Nat} {v : Value} {d : DataW H} {ps : List MemPlace} (hval : Value.okWide Try.prog w .any base 33 v) (h : DataW.Trod enc Try.prog w 0 (fun _ => true) true 33 v d ps) (hsz : ∀ n ∈ d.weights Try.prog 33, n ≤ reachBytes) :
    ∃ s : CV, v = s.agg ∧ CellWf s := by
  obtain ⟨v0, v1, v2, v3, y0, y1, y2, y3, n, rfl, _, _, h0, h1, h2, h3⟩ := Joins.open_agg4 Try.underlying33 (by kernel_rfl) (by kernel_rfl) hval h
  obtain ⟨k, rfl, w0⟩ := int_cell Try.underlying30 h0
  obtain ⟨wd, rfl, w1⟩ := int_cell Try.underlying31 h1
  obtain ⟨rg, rfl, w2⟩ := int_cell Try.underlying3 h2
  obtain ⟨of_, rfl, w3⟩ := int_cell Try.underlying2 h3
  exact ⟨⟨k, wd, rg, of_⟩, rfl, w0, w1, w2, w3⟩
end
end Go.Proofs.Ytmaeiifhmngllaa.M
