/-
  cell.right: is a cell as the words say? (printed by mkright.py)
-/
import Derived.Test.YtmaeiifhmngllaaCellA
import Derived.Test.YtmaeiifhmngllaaMapLit
namespace Go.Proofs.Ytmaeiifhmngllaa.M
open Go.RowKit
set_option linter.unusedVariables false
set_option linter.unusedSectionVars false
set_option linter.unusedSimpArgs false
def rightB (c : CV) : Bool := if c.k = 0 then decide (c.w = 0 ∧ c.r = 0 ∧ c.o = 0) else if c.k = 1 then decide (c.r = 0 ∧ c.o = 0) else if c.k = 2 then decide (c.w = 0) else if c.k = 3 then decide (c.w = 0 ∧ c.o = 0) else false
theorem cellK : Try.prog.underlying 30 = some (.int .u8) := Try.underlying30
def namedPs (wd rg of_ : Int) (k : Nat) : List (Int × Value) := [(0, .agg #[.int .u8 0, .int .u64 0, .int .i64 0, .int .i64 0]), (1, .agg #[.int .u8 0, .int .u64 wd, .int .i64 0, .int .i64 0]), (2, .agg #[.int .u8 0, .int .u64 0, .int .i64 rg, .int .i64 of_]), (3, .agg #[.int .u8 0, .int .u64 0, .int .i64 rg, .int .i64 0])].take k
theorem named_wf (wd rg of_ : Int) : ∀ k, ∀ p ∈ namedPs wd rg of_ k, (Lit.int .u8 p.1).wf = true := fun k p hp => by
  have h := List.mem_of_mem_take hp
  simp only [List.mem_cons, List.not_mem_nil, or_false] at h
  rcases h with rfl | rfl | rfl | rfl <;> rfl
theorem named_ins0 (wd rg of_ : Int) (W : World) (b : Nat) (hb : W.heap.size = b) : (Instr.mapUpdate 88 (.map (some b)) (.int .u8 0) (.agg #[.int .u8 0, .int .u64 0, .int .i64 0, .int .i64 0])).run Try.prog (W.alloc (.map #[] 0)) = .ok () (W.alloc (.map #[⟨.int .u8 0, .agg #[.int .u8 0, .int .u64 0, .int .i64 0, .int .i64 0], 0⟩] 1)) :=
  lit_ins (q := .u8) cellK Try.underlying88 (ps := namedPs wd rg of_ 0) (by simp [EntsK, namedPs]) (named_wf _ _ _ _) rfl b hb (by simp [namedPs]) _
theorem named_ins1 (wd rg of_ : Int) (W : World) (b : Nat) (hb : W.heap.size = b) : (Instr.mapUpdate 88 (.map (some b)) (.int .u8 1) (.agg #[.int .u8 0, .int .u64 wd, .int .i64 0, .int .i64 0])).run Try.prog (W.alloc (.map #[⟨.int .u8 0, .agg #[.int .u8 0, .int .u64 0, .int .i64 0, .int .i64 0], 0⟩] 1)) = .ok () (W.alloc (.map #[⟨.int .u8 0, .agg #[.int .u8 0, .int .u64 0, .int .i64 0, .int .i64 0], 0⟩, ⟨.int .u8 1, .agg #[.int .u8 0, .int .u64 wd, .int .i64 0, .int .i64 0], 1⟩] 2)) :=
  lit_ins (q := .u8) cellK Try.underlying88 (ps := namedPs wd rg of_ 1) (by simp [EntsK, namedPs]) (named_wf _ _ _ _) rfl b hb (by simp [namedPs]) _
theorem named_ins2 (wd rg of_ : Int) (W : World) (b : Nat) (hb : W.heap.size = b) : (Instr.mapUpdate 88 (.map (some b)) (.int .u8 2) (.agg #[.int .u8 0, .int .u64 0, .int .i64 rg, .int .i64 of_])).run Try.prog (W.alloc (.map #[⟨.int .u8 0, .agg #[.int .u8 0, .int .u64 0, .int .i64 0, .int .i64 0], 0⟩, ⟨.int .u8 1, .agg #[.int .u8 0, .int .u64 wd, .int .i64 0, .int .i64 0], 1⟩] 2)) = .ok () (W.alloc (.map #[⟨.int .u8 0, .agg #[.int .u8 0, .int .u64 0, .int .i64 0, .int .i64 0], 0⟩, ⟨.int .u8 1, .agg #[.int .u8 0, .int .u64 wd, .int .i64 0, .int .i64 0], 1⟩, ⟨.int .u8 2, .agg #[.int .u8 0, .int .u64 0, .int .i64 rg, .int .i64 of_], 2⟩] 3)) :=
  lit_ins (q := .u8) cellK Try.underlying88 (ps := namedPs wd rg of_ 2) (by simp [EntsK, namedPs]) (named_wf _ _ _ _) rfl b hb (by simp [namedPs]) _
theorem named_ins3 (wd rg of_ : Int) (W : World) (b : Nat) (hb : W.heap.size = b) : (Instr.mapUpdate 88 (.map (some b)) (.int .u8 3) (.agg #[.int .u8 0, .int .u64 0, .int .i64 rg, .int .i64 0])).run Try.prog (W.alloc (.map #[⟨.int .u8 0, .agg #[.int .u8 0, .int .u64 0, .int .i64 0, .int .i64 0], 0⟩, ⟨.int .u8 1, .agg #[.int .u8 0, .int .u64 wd, .int .i64 0, .int .i64 0], 1⟩, ⟨.int .u8 2, .agg #[.int .u8 0, .int .u64 0, .int .i64 rg, .int .i64 of_], 2⟩] 3)) = .ok () (W.alloc (.map #[⟨.int .u8 0, .agg #[.int .u8 0, .int .u64 0, .int .i64 0, .int .i64 0], 0⟩, ⟨.int .u8 1, .agg #[.int .u8 0, .int .u64 wd, .int .i64 0, .int .i64 0], 1⟩, ⟨.int .u8 2, .agg #[.int .u8 0, .int .u64 0, .int .i64 rg, .int .i64 of_], 2⟩, ⟨.int .u8 3, .agg #[.int .u8 0, .int .u64 0, .int .i64 rg, .int .i64 0], 3⟩] 4)) :=
  lit_ins (q := .u8) cellK Try.underlying88 (ps := namedPs wd rg of_ 3) (by simp [EntsK, namedPs]) (named_wf _ _ _ _) rfl b hb (by simp [namedPs]) _
theorem named_get0 (wd rg of_ : Int) (W : World) (b : Nat) (hb : W.heap.size = b) : (Instr.lookup 88 (.map (some b)) (.int .u8 0) true).run Try.prog (W.alloc (.map #[⟨.int .u8 0, .agg #[.int .u8 0, .int .u64 0, .int .i64 0, .int .i64 0], 0⟩, ⟨.int .u8 1, .agg #[.int .u8 0, .int .u64 wd, .int .i64 0, .int .i64 0], 1⟩, ⟨.int .u8 2, .agg #[.int .u8 0, .int .u64 0, .int .i64 rg, .int .i64 of_], 2⟩, ⟨.int .u8 3, .agg #[.int .u8 0, .int .u64 0, .int .i64 rg, .int .i64 0], 3⟩] 4)) = .ok (.tuple #[.agg #[.int .u8 0, .int .u64 0, .int .i64 0, .int .i64 0], .bool true]) (W.alloc (.map #[⟨.int .u8 0, .agg #[.int .u8 0, .int .u64 0, .int .i64 0, .int .i64 0], 0⟩, ⟨.int .u8 1, .agg #[.int .u8 0, .int .u64 wd, .int .i64 0, .int .i64 0], 1⟩, ⟨.int .u8 2, .agg #[.int .u8 0, .int .u64 0, .int .i64 rg, .int .i64 of_], 2⟩, ⟨.int .u8 3, .agg #[.int .u8 0, .int .u64 0, .int .i64 rg, .int .i64 0], 3⟩] 4)) :=
  lit_get (q := .u8) cellK Try.underlying88 (ps := namedPs wd rg of_ 4) (by simp [EntsK, namedPs]) (named_wf _ _ _ _) rfl b hb (by simp [namedPs]) (by simp [namedPs])
theorem named_get1 (wd rg of_ : Int) (W : World) (b : Nat) (hb : W.heap.size = b) : (Instr.lookup 88 (.map (some b)) (.int .u8 1) true).run Try.prog (W.alloc (.map #[⟨.int .u8 0, .agg #[.int .u8 0, .int .u64 0, .int .i64 0, .int .i64 0], 0⟩, ⟨.int .u8 1, .agg #[.int .u8 0, .int .u64 wd, .int .i64 0, .int .i64 0], 1⟩, ⟨.int .u8 2, .agg #[.int .u8 0, .int .u64 0, .int .i64 rg, .int .i64 of_], 2⟩, ⟨.int .u8 3, .agg #[.int .u8 0, .int .u64 0, .int .i64 rg, .int .i64 0], 3⟩] 4)) = .ok (.tuple #[.agg #[.int .u8 0, .int .u64 wd, .int .i64 0, .int .i64 0], .bool true]) (W.alloc (.map #[⟨.int .u8 0, .agg #[.int .u8 0, .int .u64 0, .int .i64 0, .int .i64 0], 0⟩, ⟨.int .u8 1, .agg #[.int .u8 0, .int .u64 wd, .int .i64 0, .int .i64 0], 1⟩, ⟨.int .u8 2, .agg #[.int .u8 0, .int .u64 0, .int .i64 rg, .int .i64 of_], 2⟩, ⟨.int .u8 3, .agg #[.int .u8 0, .int .u64 0, .int .i64 rg, .int .i64 0], 3⟩] 4)) :=
  lit_get (q := .u8) cellK Try.underlying88 (ps := namedPs wd rg of_ 4) (by simp [EntsK, namedPs]) (named_wf _ _ _ _) rfl b hb (by simp [namedPs]) (by simp [namedPs])
theorem named_get2 (wd rg of_ : Int) (W : World) (b : Nat) (hb : W.heap.size = b) : (Instr.lookup 88 (.map (some b)) (.int .u8 2) true).run Try.prog (W.alloc (.map #[⟨.int .u8 0, .agg #[.int .u8 0, .int .u64 0, .int .i64 0, .int .i64 0], 0⟩, ⟨.int .u8 1, .agg #[.int .u8 0, .int .u64 wd, .int .i64 0, .int .i64 0], 1⟩, ⟨.int .u8 2, .agg #[.int .u8 0, .int .u64 0, .int .i64 rg, .int .i64 of_], 2⟩, ⟨.int .u8 3, .agg #[.int .u8 0, .int .u64 0, .int .i64 rg, .int .i64 0], 3⟩] 4)) = .ok (.tuple #[.agg #[.int .u8 0, .int .u64 0, .int .i64 rg, .int .i64 of_], .bool true]) (W.alloc (.map #[⟨.int .u8 0, .agg #[.int .u8 0, .int .u64 0, .int .i64 0, .int .i64 0], 0⟩, ⟨.int .u8 1, .agg #[.int .u8 0, .int .u64 wd, .int .i64 0, .int .i64 0], 1⟩, ⟨.int .u8 2, .agg #[.int .u8 0, .int .u64 0, .int .i64 rg, .int .i64 of_], 2⟩, ⟨.int .u8 3, .agg #[.int .u8 0, .int .u64 0, .int .i64 rg, .int .i64 0], 3⟩] 4)) :=
  lit_get (q := .u8) cellK Try.underlying88 (ps := namedPs wd rg of_ 4) (by simp [EntsK, namedPs]) (named_wf _ _ _ _) rfl b hb (by simp [namedPs]) (by simp [namedPs])
theorem named_get3 (wd rg of_ : Int) (W : World) (b : Nat) (hb : W.heap.size = b) : (Instr.lookup 88 (.map (some b)) (.int .u8 3) true).run Try.prog (W.alloc (.map #[⟨.int .u8 0, .agg #[.int .u8 0, .int .u64 0, .int .i64 0, .int .i64 0], 0⟩, ⟨.int .u8 1, .agg #[.int .u8 0, .int .u64 wd, .int .i64 0, .int .i64 0], 1⟩, ⟨.int .u8 2, .agg #[.int .u8 0, .int .u64 0, .int .i64 rg, .int .i64 of_], 2⟩, ⟨.int .u8 3, .agg #[.int .u8 0, .int .u64 0, .int .i64 rg, .int .i64 0], 3⟩] 4)) = .ok (.tuple #[.agg #[.int .u8 0, .int .u64 0, .int .i64 rg, .int .i64 0], .bool true]) (W.alloc (.map #[⟨.int .u8 0, .agg #[.int .u8 0, .int .u64 0, .int .i64 0, .int .i64 0], 0⟩, ⟨.int .u8 1, .agg #[.int .u8 0, .int .u64 wd, .int .i64 0, .int .i64 0], 1⟩, ⟨.int .u8 2, .agg #[.int .u8 0, .int .u64 0, .int .i64 rg, .int .i64 of_], 2⟩, ⟨.int .u8 3, .agg #[.int .u8 0, .int .u64 0, .int .i64 rg, .int .i64 0], 3⟩] 4)) :=
  lit_get (q := .u8) cellK Try.underlying88 (ps := namedPs wd rg of_ 4) (by simp [EntsK, namedPs]) (named_wf _ _ _ _) rfl b hb (by simp [namedPs]) (by simp [namedPs])
theorem named_none (wd rg of_ n : Int) (hn : (Lit.int .u8 n).wf = true) (h0 : n ≠ 0) (h1 : n ≠ 1) (h2 : n ≠ 2) (h3 : n ≠ 3) (W : World) (b : Nat) (hb : W.heap.size = b) : (Instr.lookup 88 (.map (some b)) (.int .u8 n) true).run Try.prog (W.alloc (.map #[⟨.int .u8 0, .agg #[.int .u8 0, .int .u64 0, .int .i64 0, .int .i64 0], 0⟩, ⟨.int .u8 1, .agg #[.int .u8 0, .int .u64 wd, .int .i64 0, .int .i64 0], 1⟩, ⟨.int .u8 2, .agg #[.int .u8 0, .int .u64 0, .int .i64 rg, .int .i64 of_], 2⟩, ⟨.int .u8 3, .agg #[.int .u8 0, .int .u64 0, .int .i64 rg, .int .i64 0], 3⟩] 4)) = .ok (.tuple #[.agg #[.int .u8 0, .int .u64 0, .int .i64 0, .int .i64 0], .bool false]) (W.alloc (.map #[⟨.int .u8 0, .agg #[.int .u8 0, .int .u64 0, .int .i64 0, .int .i64 0], 0⟩, ⟨.int .u8 1, .agg #[.int .u8 0, .int .u64 wd, .int .i64 0, .int .i64 0], 1⟩, ⟨.int .u8 2, .agg #[.int .u8 0, .int .u64 0, .int .i64 rg, .int .i64 of_], 2⟩, ⟨.int .u8 3, .agg #[.int .u8 0, .int .u64 0, .int .i64 rg, .int .i64 0], 3⟩] 4)) :=
  lit_none (q := .u8) cellK Try.underlying88 (ps := namedPs wd rg of_ 4) (by simp [EntsK, namedPs]) (named_wf _ _ _ _) hn b hb (by simp [namedPs]; omega) (fun w => by kernel_rfl)
set_option maxRecDepth 100000 in
set_option maxHeartbeats 4000000 in
theorem right_c (k wd rg of_ : Int) (w : World) (hwf : (Lit.int .u8 k).wf = true) : Calls Try.prog 36 #[.agg #[.int .u8 k, .int .u64 wd, .int .i64 rg, .int .i64 of_]] w fun e w' => e = .returned (.bool (rightB ⟨k, wd, rg, of_⟩)) ∧ But [] w w' := by
  have hmm := @run_makeMap Try.prog
  have i0 := named_ins0 wd rg of_
  have i1 := named_ins1 wd rg of_
  have i2 := named_ins2 wd rg of_
  have i3 := named_ins3 wd rg of_
  by_cases e0 : k = 0
  · subst e0
    have ig := named_get0 wd rg of_
    clear hwf
    go_enter Try.func36, Try.ntmps36
    go_wp2_with fail
    all_goals
      go_ret
      refine ⟨?_, ?_⟩
      · simp [rightB, *]
      · repeat (first | exact But.refl _ _ | refine But.alloc ?_ _ | refine But.setCell ?_ (.inr (by simp)) _)
  · by_cases e1 : k = 1
    · subst e1
      have ig := named_get1 wd rg of_
      clear hwf
      go_enter Try.func36, Try.ntmps36
      go_wp2_with fail
      all_goals
        go_ret
        refine ⟨?_, ?_⟩
        · simp [rightB, *]
        · repeat (first | exact But.refl _ _ | refine But.alloc ?_ _ | refine But.setCell ?_ (.inr (by simp)) _)
    · by_cases e2 : k = 2
      · subst e2
        have ig := named_get2 wd rg of_
        clear hwf
        go_enter Try.func36, Try.ntmps36
        go_wp2_with fail
        all_goals
          go_ret
          refine ⟨?_, ?_⟩
          · simp [rightB, *]
          · repeat (first | exact But.refl _ _ | refine But.alloc ?_ _ | refine But.setCell ?_ (.inr (by simp)) _)
      · by_cases e3 : k = 3
        · subst e3
          have ig := named_get3 wd rg of_
          clear hwf
          go_enter Try.func36, Try.ntmps36
          go_wp2_with fail
          all_goals
            go_ret
            refine ⟨?_, ?_⟩
            · simp [rightB, *]
            · repeat (first | exact But.refl _ _ | refine But.alloc ?_ _ | refine But.setCell ?_ (.inr (by simp)) _)
        · have ig := named_none wd rg of_ k hwf e0 e1 e2 e3
          clear hwf
          go_enter Try.func36, Try.ntmps36
          go_wp2_with fail
          all_goals
            go_ret
            refine ⟨?_, ?_⟩
            · simp [rightB, *]
            · repeat (first | exact But.refl _ _ | refine But.alloc ?_ _ | refine But.setCell ?_ (.inr (by simp)) _)
end Go.Proofs.Ytmaeiifhmngllaa.M
