/-
  refine.opposite.
-/
import Derived.Test.YtmbmmcippglfoaaRulM
namespace Go.Proofs.Ytmbmmcippglfoaa.M
open Go.RowKit Go.Shelf
set_option linter.unusedVariables false
set_option linter.unusedSectionVars false
set_option linter.unusedSimpArgs false

def enO (l : List (Nat × Nat)) : List (Int × Value) := l.map fun p => ((p.1 : Int), Value.int .u8 (p.2 : Int))
def TabO (w0 W : World) (M : Nat) (l : List (Nat × Nat)) : Prop := ∃ es clock, W.heap[M]? = some (.map es clock) ∧ EntsK .u8 es (enO l) ∧ (∀ p ∈ l, p.1 < 256) ∧ But [] w0 W ∧ w0.heap.size ≤ M
theorem enO_wf {l : List (Nat × Nat)} (h : ∀ p ∈ l, p.1 < 256) : ∀ p ∈ enO l, (Lit.int .u8 p.1).wf = true := fun p hp => by
  obtain ⟨q, hq, rfl⟩ := List.mem_map.1 hp
  exact u8_wf q.1 (h q hq)
theorem enO_ne {l : List (Nat × Nat)} {n : Nat} (h : n ∉ l.map (·.1)) : ∀ p ∈ enO l, p.1 ≠ (n : Int) := fun p hp e => by
  obtain ⟨q, hq, rfl⟩ := List.mem_map.1 hp
  simp only at e
  exact h (List.mem_map.2 ⟨q, hq, by omega⟩)
theorem TabO.ins {w0 W : World} {M : Nat} {l : List (Nat × Nat)} (h : TabO w0 W M l) (n v : Nat) (hn : n < 256) (hne : n ∉ l.map (·.1)) : ∃ W2, (Instr.mapUpdate 78 (.map (some M)) (.int .u8 (n : Int)) (.int .u8 (v : Int))).run Try.prog W = .ok () W2 ∧ TabO w0 W2 M (l ++ [(n, v)]) := by
  obtain ⟨es, clock, h1, h2, h3, h4, h5⟩ := h
  obtain ⟨a, b⟩ := mapU_ins (P := Try.prog) (K := 5) (E := 5) (T := 78) Try.underlying5 Try.underlying78 h1 h2 (enO_wf h3) (u8_wf n hn) (enO_ne hne) (.int .u8 (v : Int))
  refine ⟨_, a, es.push ⟨.int .u8 (n : Int), .int .u8 (v : Int), clock⟩, clock + 1, ?_, ?_, ?_, h4.setBlock h1 (.inr h5) _, h5⟩
  · simp only [ChangeMaps.setBlock]
    have hl := lt_of h1
    simp [Array.getElem?_setIfInBounds_self_of_lt, hl]
  · unfold enO at *
    rw [List.map_append]
    exact b
  · intro p hp
    rcases List.mem_append.1 hp with hp | hp
    · exact h3 p hp
    · simp only [List.mem_singleton] at hp; subst hp; exact hn
def oppL : List (Nat × Nat) := [(16, 80), (80, 16), (32, 176), (176, 32), (48, 160), (160, 48), (96, 208), (208, 96), (112, 192), (192, 112), (64, 1)]
theorem TabO.get {w0 W : World} {M : Nat} (h : TabO w0 W M oppL) (n : Nat) (hn : n < 256) : (Instr.lookup 78 (.map (some M)) (.int .u8 (n : Int)) false).run Try.prog W = .ok (.int .u8 ((opp n : Nat) : Int)) W := by
  obtain ⟨es, clock, h1, h2, h3, h4, h5⟩ := h
  by_cases hm : opp n = 0
  · rw [hm]
    refine mapU_none (P := Try.prog) (K := 5) (E := 5) (T := 78) Try.underlying5 Try.underlying78 h1 h2 (enO_wf h3) (u8_wf n hn) (Try.zeroValue5 _) (enO_ne ?_)
    intro hx
    simp only [oppL, List.map_cons, List.map_nil, List.mem_cons, List.not_mem_nil, or_false] at hx
    rcases hx with rfl | rfl | rfl | rfl | rfl | rfl | rfl | rfl | rfl | rfl | rfl <;> simp [opp] at hm
  · refine mapU_get (P := Try.prog) (K := 5) (E := 5) (T := 78) Try.underlying5 Try.underlying78 h1 h2 (enO_wf h3) (u8_wf n hn) (v := .int .u8 ((opp n : Nat) : Int)) ?_ (by decide)
    refine List.mem_map.2 ⟨(n, opp n), ?_, rfl⟩
    rcases opp_cases hm with rfl | rfl | rfl | rfl | rfl | rfl | rfl | rfl | rfl | rfl | rfl <;> decide
set_option maxRecDepth 100000 in
set_option maxHeartbeats 4000000 in
theorem opposite_c (op : Nat) (w : World) (hop : op < 256) : Calls Try.prog 25 #[.int .u8 op] w fun e w' => e = .returned (.int .u8 ((opp op : Nat) : Int)) ∧ But [] w w' := by
  have hmm := @run_makeMap Try.prog
  have hT : TabO w (w.alloc (.map #[] 0)) w.heap.size [] := ⟨#[], 0, al_at _ _, rfl, by simp, (But.refl _ _).alloc _, Nat.le_refl _⟩
  obtain ⟨w0, i0, hT⟩ := hT.ins 16 80 (by decide) (by decide)
  replace i0 : (Instr.mapUpdate 78 (.map (some w.heap.size)) (.int .u8 16) (.int .u8 80)).run Try.prog (w.alloc (.map #[] 0)) = .ok () w0 := i0
  obtain ⟨w1, i1, hT⟩ := hT.ins 80 16 (by decide) (by decide)
  replace i1 : (Instr.mapUpdate 78 (.map (some w.heap.size)) (.int .u8 80) (.int .u8 16)).run Try.prog w0 = .ok () w1 := i1
  obtain ⟨w2, i2, hT⟩ := hT.ins 32 176 (by decide) (by decide)
  replace i2 : (Instr.mapUpdate 78 (.map (some w.heap.size)) (.int .u8 32) (.int .u8 176)).run Try.prog w1 = .ok () w2 := i2
  obtain ⟨w3, i3, hT⟩ := hT.ins 176 32 (by decide) (by decide)
  replace i3 : (Instr.mapUpdate 78 (.map (some w.heap.size)) (.int .u8 176) (.int .u8 32)).run Try.prog w2 = .ok () w3 := i3
  obtain ⟨w4, i4, hT⟩ := hT.ins 48 160 (by decide) (by decide)
  replace i4 : (Instr.mapUpdate 78 (.map (some w.heap.size)) (.int .u8 48) (.int .u8 160)).run Try.prog w3 = .ok () w4 := i4
  obtain ⟨w5, i5, hT⟩ := hT.ins 160 48 (by decide) (by decide)
  replace i5 : (Instr.mapUpdate 78 (.map (some w.heap.size)) (.int .u8 160) (.int .u8 48)).run Try.prog w4 = .ok () w5 := i5
  obtain ⟨w6, i6, hT⟩ := hT.ins 96 208 (by decide) (by decide)
  replace i6 : (Instr.mapUpdate 78 (.map (some w.heap.size)) (.int .u8 96) (.int .u8 208)).run Try.prog w5 = .ok () w6 := i6
  obtain ⟨w7, i7, hT⟩ := hT.ins 208 96 (by decide) (by decide)
  replace i7 : (Instr.mapUpdate 78 (.map (some w.heap.size)) (.int .u8 208) (.int .u8 96)).run Try.prog w6 = .ok () w7 := i7
  obtain ⟨w8, i8, hT⟩ := hT.ins 112 192 (by decide) (by decide)
  replace i8 : (Instr.mapUpdate 78 (.map (some w.heap.size)) (.int .u8 112) (.int .u8 192)).run Try.prog w7 = .ok () w8 := i8
  obtain ⟨w9, i9, hT⟩ := hT.ins 192 112 (by decide) (by decide)
  replace i9 : (Instr.mapUpdate 78 (.map (some w.heap.size)) (.int .u8 192) (.int .u8 112)).run Try.prog w8 = .ok () w9 := i9
  obtain ⟨w10, i10, hT⟩ := hT.ins 64 1 (by decide) (by decide)
  replace i10 : (Instr.mapUpdate 78 (.map (some w.heap.size)) (.int .u8 64) (.int .u8 1)).run Try.prog w9 = .ok () w10 := i10
  have hg := TabO.get hT op hop
  have HB := Lib.hid (show But [] w w10 by obtain ⟨_, _, _, _, _, h, _⟩ := hT; exact h)
  clear hT hop
  obtain ⟨q, hq⟩ : ∃ q, q = opp op := ⟨_, rfl⟩
  rw [← hq] at hg ⊢
  clear hq
  go_enter Try.func25, Try.ntmps25
  go_wp2
  go_ret
  exact ⟨rfl, HB.out⟩
end Go.Proofs.Ytmbmmcippglfoaa.M
