/-
  The contracts of a memory's table: put.
-/
import Derived.Test.YtmleaogklpogdaaMemA
import Derived.Test.YtmleaogklpogdaaMap
import Derived.RegionTactic
import Derived.BigRegion
namespace Go.Proofs.Ytmleaogklpogdaa.M
open Go.RowKit
set_option linter.unusedVariables false
set_option linter.unusedSectionVars false
set_option linter.unusedSimpArgs false
def tM : TypeId := 27
theorem put (B b c : Nat) (last : Int) (es : Array MapEntry) (clock : Nat) (ps : List (Int × Value)) (w : World) (hB : w.heap[B]? = some (.cells #[.map (some b), .int .i64 last] tM)) (hb : w.heap[b]? = some (.map es clock)) (hE : Ents es ps) (hw : ∀ p ∈ ps, Wf p.1)
    (hl : 0 ≤ last ∧ last < 1000000) (hne : ∀ p ∈ ps, p.1 ≠ last + 1) :
    Calls Try.prog 17 #[.pointer (some ⟨B, 0, none⟩), .pointer (some ⟨c, 0, none⟩)] w fun e w' => e = .returned (.int .i64 (last + 1)) ∧ But [B, b] w w' ∧
      w'.heap[B]? = some (.cells #[.map (some b), .int .i64 (last + 1)] tM) ∧ ∃ es' clock', w'.heap[b]? = some (.map es' clock') ∧ Ents es' (ps ++ [(last + 1, .pointer (some ⟨c, 0, none⟩))]) := by
  obtain ⟨hl1, hl2⟩ := hl
  have c0 : w.cell? ⟨B, 0, none⟩ = some (.map (some b)) := by simp [World.cell?, hB]
  have c1 : w.cell? ⟨B, 1, none⟩ = some (.int .i64 last) := by simp [World.cell?, hB]
  have f1 : w.frozen? ⟨B, 1, none⟩ = false := by simp [World.frozen?, hB]
  have hBb : B ≠ b := by rintro rfl; rw [hB] at hb; cases hb
  have hb2 : (w.setCell ⟨B, 1, none⟩ (.int .i64 (last + 1))).heap[b]? = some (.map es clock) := by
    rw [Below.heap_setCell _ _ _ _ (Ne.symm hBb)]; exact hb
  have hB2 : (w.setCell ⟨B, 1, none⟩ (.int .i64 (last + 1))).heap[B]? = some (.cells #[.map (some b), .int .i64 (last + 1)] tM) := by
    have hlt := lt_of hB
    simp [World.setCell, Array.getElem?_modify, hB]
  obtain ⟨hrun, hE2⟩ := map_ins (P := Try.prog) (w := (w.setCell ⟨B, 1, none⟩ (.int .i64 (last + 1))).drew) Try.underlying3 Try.underlying23 hb2 hE hw (n := last + 1) (wf_of (by omega) (by omega)) hne (.pointer (some ⟨c, 0, none⟩))
  have hb3 : (w.setCell ⟨B, 1, none⟩ (.int .i64 (last + 1))).drew.heap[b]? = some (.map es clock) := hb2
  have hB3 : (ChangeMaps.setBlock (w.setCell ⟨B, 1, none⟩ (.int .i64 (last + 1))).drew b (.map (es.push ⟨.int .i64 (last + 1), .pointer (some ⟨c, 0, none⟩), clock⟩) (clock + 1))).heap[B]? = some (.cells #[.map (some b), .int .i64 (last + 1)] tM) := by
    rw [ChangeMaps.heap_setBlock_other hb3 _ hBb]; exact hB2
  have c3 : (ChangeMaps.setBlock (w.setCell ⟨B, 1, none⟩ (.int .i64 (last + 1))).drew b (.map (es.push ⟨.int .i64 (last + 1), .pointer (some ⟨c, 0, none⟩), clock⟩) (clock + 1))).cell? ⟨B, 1, none⟩ = some (.int .i64 (last + 1)) := by
    simp [World.cell?, hB3]
  have hbut : But [B, b] w (ChangeMaps.setBlock (w.setCell ⟨B, 1, none⟩ (.int .i64 (last + 1))).drew b (.map (es.push ⟨.int .i64 (last + 1), .pointer (some ⟨c, 0, none⟩), clock⟩) (clock + 1))) :=
    (((But.refl [B, b] w).setCell (.inl (by simp)) _).drew).setBlock hb3 (.inl (by simp)) _
  go_enter Try.func17, Try.ntmps17
  go_wp2
  go_region
  go_wp2
  go_ret
  exact ⟨rfl, hbut, hB3, _, _, ChangeMaps.heap_setBlock_same hb3 _, hE2⟩
end Go.Proofs.Ytmleaogklpogdaa.M
