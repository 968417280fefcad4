/-
  The slots that come in.
-/
import Derived.Test.YtddeckkcfcodbaaGreatOpenS
import Derived.Test.YtddeckkcfcodbaaGreatLentI
namespace Go.Proofs.YtddeckkcfcodbaaGreat.M
open Go.RowKit
set_option linter.unusedVariables false
set_option linter.unusedSectionVars false
set_option linter.unusedSimpArgs false
/-- A list of slots that came in. -/
def CameI (w : World) (v : Value) (l : List Ins) : Prop := SeesI w v l ∧ (∀ x ∈ l, InsOk x) ∧ ∀ a n c, v = .slice a n c → a = none → c = 0
theorem CameI.but {w w' : World} {v : Value} {l : List Ins} (h : CameI w v l) (hb : But [] w w') : CameI w' v l := ⟨h.1.but hb (by simp), h.2⟩
section
variable {H : Type} {enc : TypeId × Value → H} {w : World}
theorem wf_u8 {n : Int} (h : (Lit.int .u8 n).wf = true) : 0 ≤ n ∧ n ≤ 255 := by
  simp only [Lit.wf, Bool.and_eq_true, decide_eq_true_eq] at h
  exact ⟨h.1, Int.le_trans h.2 (by decide)⟩
theorem wf_i16 {n : Int} (h : (Lit.int .i16 n).wf = true) : -32768 ≤ n ∧ n ≤ 32767 := by
  simp only [Lit.wf, Bool.and_eq_true, decide_eq_true_eq] at h
  exact ⟨Int.le_trans (by decide) h.1, Int.le_trans h.2 (by decide)⟩
theorem wf_i32 {n : Int} (h : (Lit.int .i32 n).wf = true) : -2147483648 ≤ n ∧ n ≤ 2147483647 := by
  simp only [Lit.wf, Bool.and_eq_true, decide_eq_true_eq] at h
  exact ⟨Int.le_trans (by decide) h.1, Int.le_trans h.2 (by decide)⟩
def InsAt (w : World) (a : Option Addr) (i : Nat) (x : Ins) : Prop := (∃ b o, a = some ⟨b, o, none⟩ ∧ ∀ (j : Nat) (u : Value), x.cells[j]? = some u → w.cell? ⟨b, o + i * 5 + j, none⟩ = some u) ∧ InsOk x
set_option maxRecDepth 100000 in
theorem instrs_in {base : Nat} {v : Value} {d : DataW H} {ps : List MemPlace} (hval : Value.okWide Tryz.prog w .any base 28 v) (h : DataW.Trod enc Tryz.prog w 0 (fun _ => true) true 28 v d ps) (hsz : ∀ n ∈ d.weights Tryz.prog 28, n ≤ reachBytes) :
    ∃ l, CameI w v l ∧ l.length ≤ 140737488355328 := by
  have hC : Tryz.prog.cellsOf 27 = 5 := by kernel_rfl
  have hB : Tryz.prog.bytesOf 27 = 12 := by kernel_rfl
  rcases recs_in Tryz.underlying28 Tryz.underlying27 (by rw [hC]; decide) hval h hsz with rfl | ⟨a, len, cap, rfl, hl, hb, hi⟩
  · exact ⟨[], ⟨⟨none, 0, rfl, fun i d h => by cases h⟩, (fun x hx => by cases hx), fun a n c e _ => by cases e; rfl⟩, by simp⟩
  · rw [hB] at hb
    have each : ∀ i, i < len → ∃ x, InsAt w (some a) i x := fun i hil => by
      obtain ⟨b, o, cs, rfl, hcl, hat, n, hr⟩ := hi i hil
      rw [hC] at hcl hat
      match cs, hcl with
      | [c0, c1, c2, c3, c4], _ =>
        obtain ⟨y0, h0, _⟩ := hr 0 _ rfl
        obtain ⟨y1, h1, _⟩ := hr 1 _ rfl
        obtain ⟨y2, h2, _⟩ := hr 2 _ rfl
        obtain ⟨y3, h3, _⟩ := hr 3 _ rfl
        obtain ⟨y4, h4, _⟩ := hr 4 _ rfl
        have e0 : Tryz.prog.cellsOf 5 = 1 := by kernel_rfl
        have e1 : Tryz.prog.cellsOf 23 = 1 := by kernel_rfl
        have e2 : Tryz.prog.cellsOf 21 = 1 := by kernel_rfl
        replace h0 : DataW.trod enc Tryz.prog w 0 (fun _ => true) true n 5 (([c0, c1, c2, c3, c4].drop 0).take (Tryz.prog.cellsOf 5)) = some y0 := h0
        rw [e0] at h0
        replace h1 : DataW.trod enc Tryz.prog w 0 (fun _ => true) true n 5 (([c0, c1, c2, c3, c4].drop 1).take (Tryz.prog.cellsOf 5)) = some y1 := h1
        rw [e0] at h1
        replace h2 : DataW.trod enc Tryz.prog w 0 (fun _ => true) true n 5 (([c0, c1, c2, c3, c4].drop 2).take (Tryz.prog.cellsOf 5)) = some y2 := h2
        rw [e0] at h2
        replace h3 : DataW.trod enc Tryz.prog w 0 (fun _ => true) true n 23 (([c0, c1, c2, c3, c4].drop 3).take (Tryz.prog.cellsOf 23)) = some y3 := h3
        rw [e1] at h3
        replace h4 : DataW.trod enc Tryz.prog w 0 (fun _ => true) true n 21 (([c0, c1, c2, c3, c4].drop 4).take (Tryz.prog.cellsOf 21)) = some y4 := h4
        rw [e2] at h4
        obtain ⟨op, rfl, w0⟩ := int_cell Tryz.underlying5 h0
        obtain ⟨dst, rfl, w1⟩ := int_cell Tryz.underlying5 h1
        obtain ⟨src, rfl, w2⟩ := int_cell Tryz.underlying5 h2
        obtain ⟨off, rfl, w3⟩ := int_cell Tryz.underlying23 h3
        obtain ⟨imm, rfl, w4⟩ := int_cell Tryz.underlying21 h4
        refine ⟨⟨op, dst, src, off, imm⟩, ⟨b, o, rfl, fun j v hj => ?_⟩, ⟨wf_u8 w0, wf_u8 w1, wf_u8 w2, wf_i16 w3, wf_i32 w4⟩⟩
        have hjl : j < 5 := (List.getElem?_eq_some_iff.1 hj).1
        rw [Nat.add_assoc, hat j hjl]
        exact hj
    have pick : ∀ i, ∃ x : Ins, i < len → InsAt w (some a) i x := fun i => by
      by_cases hil : i < len
      · obtain ⟨x, hx⟩ := each i hil
        exact ⟨x, fun _ => hx⟩
      · exact ⟨⟨0, 0, 0, 0, 0⟩, fun h => absurd h hil⟩
    obtain ⟨D, hD⟩ := Classical.axiomOfChoice pick
    have hat : ∀ (i : Nat) (x : Ins), ((List.range len).map D)[i]? = some x → InsAt w (some a) i x := fun i x hx => by
      rw [List.getElem?_map] at hx
      obtain ⟨z, hz, rfl⟩ := Option.map_eq_some_iff.1 hx
      obtain ⟨hj, rfl⟩ := List.getElem?_eq_some_iff.1 hz
      simp only [List.length_range] at hj
      simp only [List.getElem_range]
      exact hD i hj
    refine ⟨(List.range len).map D, ⟨⟨some a, cap, by simp, fun i x hx => (hat i x hx).1⟩, fun x hx => ?_, fun a' n c e h0 => by cases e; cases h0⟩, by simp; omega⟩
    obtain ⟨i, hi⟩ := List.getElem?_of_mem hx
    exact (hat i x hi).2
end
end Go.Proofs.YtddeckkcfcodbaaGreat.M
