/-
  A deed that comes in by value.
-/
import Derived.Test.YtkgoblpddjpcnaaGreatOpenS
import Derived.Test.YtkgoblpddjpcnaaGreatArrAwake
namespace Go.Proofs.YtkgoblpddjpcnaaGreat.M
open Go.RowKit
set_option linter.unusedVariables false
set_option linter.unusedSectionVars false
set_option linter.unusedSimpArgs false
/-- One deed, by value. -/
structure DeedV where
  what : Int
  key : Value
  b : Value
  ks : List Value
  bs : List Value
  flags : Int
  place : Int
  off : Int
def DeedV.val (d : DeedV) : Value := .agg #[.int .i64 d.what, d.key, d.b, .int .u64 d.flags, .int .i64 d.place, .int .i64 d.off]
theorem array6 {α : Type} {cs : Array α} (h : cs.size = 6) : ∃ a b c d e f, cs = #[a, b, c, d, e, f] := by
  obtain ⟨l⟩ := cs
  match l, h with
  | [a, b, c, d, e, f], _ => exact ⟨a, b, c, d, e, f, rfl⟩
section
variable {H : Type} {enc : TypeId × Value → H} {w : World}
set_option maxRecDepth 100000 in
theorem deed_in {base : Nat} {v : Value} {d : DataW H} {ps : List MemPlace} (hval : Value.okWide Tryz.prog w .any base 39 v) (h : DataW.Trod enc Tryz.prog w 0 (fun _ => true) true 39 v d ps) (hsz : ∀ n ∈ d.weights Tryz.prog 39, n ≤ reachBytes) :
    ∃ x : DeedV, v = x.val ∧ ((Sees w x.key x.ks ∧ IsBytes x.ks ∧ x.ks.length ≤ 140737488351232) ∧ (Sees w x.b x.bs ∧ IsBytes x.bs ∧ x.bs.length ≤ 140737488351232) ∧ (Lit.int .i64 x.what).wf = true ∧ (Lit.int .u64 x.flags).wf = true ∧ (Lit.int .i64 x.place).wf = true ∧ (Lit.int .i64 x.off).wf = true) := by
  have hC : Tryz.prog.cellsOf 39 = 6 := by kernel_rfl
  obtain ⟨cs, rfl, hcs⟩ := WideShapes.okWide_struct Tryz.underlying39 hval
  obtain ⟨c0, c1, c2, c3, c4, c5, rfl⟩ := array6 (hcs.trans hC)
  obtain ⟨fuel, hf⟩ := h
  obtain ⟨n, hr⟩ := reads_of Tryz.underlying39 hf hsz
  have hcc : (Value.agg #[c0, c1, c2, c3, c4, c5]).cells.toList = [c0, c1, c2, c3, c4, c5] := rfl
  obtain ⟨y0, h0, _⟩ := hr 0 _ rfl
  obtain ⟨y1, h1, w1⟩ := hr 1 _ rfl
  obtain ⟨y2, h2, w2⟩ := hr 2 _ rfl
  obtain ⟨y3, h3, _⟩ := hr 3 _ rfl
  obtain ⟨y4, h4, _⟩ := hr 4 _ rfl
  obtain ⟨y5, h5, _⟩ := hr 5 _ rfl
  have e0 : Tryz.prog.cellsOf 3 = 1 := by kernel_rfl
  have e1 : Tryz.prog.cellsOf 36 = 1 := by kernel_rfl
  have e2 : Tryz.prog.cellsOf 37 = 1 := by kernel_rfl
  replace h0 : DataW.trod enc Tryz.prog w 0 (fun _ => true) true n 3 (([c0, c1, c2, c3, c4, c5].drop 0).take (Tryz.prog.cellsOf 3)) = some y0 := h0
  rw [e0] at h0
  replace h1 : DataW.trod enc Tryz.prog w 0 (fun _ => true) true n 36 (([c0, c1, c2, c3, c4, c5].drop 1).take (Tryz.prog.cellsOf 36)) = some y1 := h1
  rw [e1] at h1
  replace h2 : DataW.trod enc Tryz.prog w 0 (fun _ => true) true n 36 (([c0, c1, c2, c3, c4, c5].drop 2).take (Tryz.prog.cellsOf 36)) = some y2 := h2
  rw [e1] at h2
  replace h3 : DataW.trod enc Tryz.prog w 0 (fun _ => true) true n 37 (([c0, c1, c2, c3, c4, c5].drop 3).take (Tryz.prog.cellsOf 37)) = some y3 := h3
  rw [e2] at h3
  replace h4 : DataW.trod enc Tryz.prog w 0 (fun _ => true) true n 3 (([c0, c1, c2, c3, c4, c5].drop 4).take (Tryz.prog.cellsOf 3)) = some y4 := h4
  rw [e0] at h4
  replace h5 : DataW.trod enc Tryz.prog w 0 (fun _ => true) true n 3 (([c0, c1, c2, c3, c4, c5].drop 5).take (Tryz.prog.cellsOf 3)) = some y5 := h5
  rw [e0] at h5
  obtain ⟨t, rfl, wt⟩ := int_cell Tryz.underlying3 h0
  obtain ⟨xs, hs, hby, hln⟩ := bytes_cell Tryz.underlying36 Tryz.underlying5 (by kernel_rfl) (by kernel_rfl) h1 w1
  obtain ⟨bs, gs, gby, gln⟩ := bytes_cell Tryz.underlying36 Tryz.underlying5 (by kernel_rfl) (by kernel_rfl) h2 w2
  obtain ⟨fl, rfl, wf⟩ := int_cell Tryz.underlying37 h3
  obtain ⟨pl, rfl, wp⟩ := int_cell Tryz.underlying3 h4
  obtain ⟨of, rfl, wo⟩ := int_cell Tryz.underlying3 h5
  exact ⟨⟨t, c1, c2, xs, bs, fl, pl, of⟩, rfl, ⟨hs, hby, hln⟩, ⟨gs, gby, gln⟩, wt, wf, wp, wo⟩
end
end Go.Proofs.YtkgoblpddjpcnaaGreat.M
