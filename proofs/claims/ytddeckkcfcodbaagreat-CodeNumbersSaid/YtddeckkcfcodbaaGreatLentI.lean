/-
  hatchwaykit.LentProgram, KeptProgram, SameProgram.
-/
import Derived.Test.YtddeckkcfcodbaaGreatIns
import Derived.Test.YtddeckkcfcodbaaGreatMark
import Derived.StillTailTactics
import Derived.BigQuiet
import Derived.Deep.QuietTactic
import Derived.IntWalk
import Derived.Laws.Rows
namespace Go.Proofs.YtddeckkcfcodbaaGreat.M
open Go.RowKit Go.Shelf
set_option linter.unusedVariables false
set_option linter.unusedSectionVars false
set_option linter.unusedSimpArgs false
def Ins.agg (x : Ins) : Value := .agg #[.int .u8 x.op, .int .u8 x.dst, .int .u8 x.src, .int .i16 x.off, .int .i32 x.imm]
/-- The mark at a place. -/
def wI (k i : Int) : Int := wrap32 (mkI k i)
def mI (k i : Int) : Ins := ⟨0, 0, 0, 0, wI k i⟩
set_option maxRecDepth 100000 in
theorem markInstr (k i : Int) (w : World) : Calls Tryz.prog 31 #[.int .i64 k, .int .i64 i] w fun e w' => e = .returned (.agg #[.int .u8 0, .int .u8 0, .int .u8 0, .int .i16 0, .int .i32 (wI k i)]) ∧ But [] w w' := by
  go_enter Tryz.func31, Tryz.ntmps31
  go_wp2_with (go_at_call 45; refine (markI _ _ _).mono ?_; rintro e w1 ⟨rfl, rfl⟩)
  refine bodyPost_ret (results_cell_row rfl _ _ w.heap.size 27 _ _ _ rfl (al_at _ _) Tryz.underlying27 (by rfl) (by kernel_rfl)) rfl ?_
  exact ⟨rfl, (But.refl [] w).alloc _⟩
def marksI (k n : Nat) : List Ins := (List.range n).map fun i : Nat => mI k i
theorem marksI_len (k n : Nat) : (marksI k n).length = n := by simp [marksI]
theorem marksI_succ (k n : Nat) : marksI k (n + 1) = marksI k n ++ [mI k n] := by simp [marksI, List.range_succ]
theorem marksI_at {k n i : Nat} (h : i < n) : (marksI k n)[i]? = some (mI k i) := by simp [marksI, h]
/-- What was lent. -/
def LentI (w : World) (v : Value) (l : List Ins) : Prop := ∃ g, v = .slice (some ⟨g, 0, none⟩) l.length (l.length + 12) ∧ RowI 0 w (.slice (some ⟨g, 0, none⟩) (l.length + 12) (l.length + 12)) (l ++ marksI 1 12)
theorem LentI.form {w : World} {v : Value} {l : List Ins} (h : LentI w v l) : ∃ g, v = .slice (some ⟨g, 0, none⟩) l.length (l.length + 12) := by
  obtain ⟨g, e, _⟩ := h
  exact ⟨g, e⟩
theorem LentI.but {L : List Nat} {w w' : World} {v : Value} {l : List Ins} (h : LentI w v l) (hb : But L w w') (hn : ∀ k, v.ownBlock = some k → k ∉ L) : LentI w' v l := by
  obtain ⟨g, rfl, h⟩ := h
  exact ⟨g, rfl, h.but hb hn⟩
theorem LentI.sees {w : World} {v : Value} {l : List Ins} (h : LentI w v l) : SeesI w v l := by
  obtain ⟨g, rfl, h⟩ := h
  refine seesI_cells rfl fun j u hj => h.cells j u ?_
  rw [List.flatMap_append, List.getElem?_append_left (List.getElem?_eq_some_iff.1 hj).1]
  exact hj
theorem seesI_at {w : World} {a : Option Addr} {n c : Nat} {l : List Ins} (h : SeesI w (.slice a n c) l) : ∀ ad, a = some ad → ∀ (j : Nat) (u : Value), (l.flatMap Ins.cells)[j]? = some u → w.cell? (ad.add j) = some u := by
  rintro ad rfl j u hj
  obtain ⟨a', c', e, h⟩ := h
  simp only [Value.slice.injEq] at e
  obtain ⟨rfl, rfl, rfl⟩ := e
  have hlt : j < l.length * 5 := by rw [← flat_lenI]; exact (List.getElem?_eq_some_iff.1 hj).1
  obtain ⟨x, hx⟩ : ∃ x, l[j / 5]? = some x := ⟨_, List.getElem?_eq_getElem (by omega)⟩
  obtain ⟨b, o, e, hc⟩ := h _ x hx
  simp only [Option.some.injEq] at e
  subst e
  have h5 : j / 5 * 5 + j % 5 = j := by omega
  rw [← h5, flat_cellsI l _ _ x hx (by omega)] at hj
  have := hc _ _ hj
  rw [add_at, ← h5, ← Nat.add_assoc]
  exact this
theorem seesI_none {w : World} {n c : Nat} {l : List Ins} (h : SeesI w (.slice none n c) l) : n = 0 := by
  obtain ⟨a', c', e, h⟩ := h
  simp only [Value.slice.injEq] at e
  obtain ⟨rfl, rfl, rfl⟩ := e
  cases l with
  | nil => rfl
  | cons x l =>
    obtain ⟨b, o, e, _⟩ := h 0 x rfl
    cases e
set_option maxRecDepth 100000 in
set_option maxHeartbeats 2000000 in
theorem lentI (a : Option Addr) (c : Nat) (l : List Ins) (w : World) (hs : SeesI w (.slice a l.length c) l) (hac : a = none → c = 0) (hl : l.length ≤ 1000000) :
    Calls Tryz.prog 12 #[.slice a l.length c] w fun e w' => ∃ v, e = .returned v ∧ LentI w' v l ∧ v.ownBlock = some w.heap.size ∧ But [] w w' := by
  obtain ⟨i0, hi, hz0, hz1, hz2⟩ := info_parts (show (Tryz.prog.info? 27).map (fun i => (i.zero, i.size, i.bytes)) = some (some (.agg #[.int .u8 0, .int .u8 0, .int .u8 0, .int .i16 0, .int .i32 0]), 5, 12) by kernel_rfl)
  have hnn : a = none → l.length = 0 ∧ c = 0 := fun e => by
    subst e
    exact ⟨seesI_none hs, hac rfl⟩
  have HN := Lib.hid hnn
  have HAT := Lib.hid (seesI_at hs)
  have H1 := Lib.hid (flat_oneI l)
  have HFL := Lib.hid (flat_lenI l)
  have hl0 : (0 : Int) ≤ l.length := by omega
  have hmk : ∀ w, (Instr.makeSlice 28 (.int .i64 0) (.int .i64 ((l.length : Int) + 12))).run Tryz.prog w = .ok (.slice (some ⟨w.heap.size, 0, none⟩) 0 (l.length + 12)) (w.alloc (.cells (madeCells #[.int .u8 0, .int .u8 0, .int .u8 0, .int .i16 0, .int .i32 0] ((l.length + 12) * 5)) 27)) := fun w => by
    have h := run_make (P := Tryz.prog) w 28 27 i0 (.agg #[.int .u8 0, .int .u8 0, .int .u8 0, .int .i16 0, .int .i32 0]) Tryz.underlying28 hi hz0 .i64 .i64 0 ((l.length : Int) + 12) (by omega) (by omega) (by rw [hz2]; omega) (by omega)
    rw [h, hz1]
    rfl
  have hown0 : (w.alloc (.cells (madeCells #[.int .u8 0, .int .u8 0, .int .u8 0, .int .i16 0, .int .i32 0] ((l.length + 12) * 5)) 27)).ownsRow 0 27 5 (.slice (some ⟨w.heap.size, 0, none⟩) 0 (l.length + 12)) 0 [] :=
    World.ownsRow_made w _ (l.length + 12) (Nat.zero_le _) (by unfold maxLen; omega) (by rw [size_madeCells])
  have HO := Lib.hid hown0
  have hb0 : But [] w (w.alloc (.cells (madeCells #[.int .u8 0, .int .u8 0, .int .u8 0, .int .i16 0, .int .i32 0] ((l.length + 12) * 5)) 27)) := (But.refl _ _).alloc _
  have HB := Lib.hid hb0
  clear hs hac hnn hown0 hb0
  go_enter Tryz.func12, Tryz.ntmps12
  go_wp2_with (at_builtin; refine wpList_append_fits_any _ rfl _ _ 28 rfl 0 27 i0 5 Tryz.underlying28 hi hz1 w.heap.size 0 (l.length + 12) [] rfl HO.out a l.length c (l.flatMap Ins.cells) rfl HFL.out HN.out (fun ad e j u hj => cell_but HB.out (HAT.out ad e j u hj) (by simp)) H1.out (by omega) ?_; intro w1 hown1 hgrow1)
  have HO1 : Hid (w1.ownsRow 0 27 5 (.slice (some ⟨w.heap.size, 0, none⟩) (l.length + 0) (l.length + 12)) (l.length + 0) ((l ++ marksI 1 0).flatMap Ins.cells)) := Lib.hid (by
    rw [Nat.zero_add] at hown1
    simpa [marksI] using hown1)
  have HB1 : Hid (But [] w w1) := Lib.hid (HB.out.grown hgrow1 (fun k hk => .inr (by cases hk; exact Nat.le_refl _)))
  clear hown1 hgrow1 HO HB HAT HN H1 HFL
  go_loopw [3, 4] (fun o i wr => ∃ k : Nat, k ≤ 12 ∧ i = .int .i64 k ∧ o = .slice (some ⟨w.heap.size, 0, none⟩) (l.length + k) (l.length + 12) ∧ wr.ownsRow 0 27 5 o (l.length + k) ((l ++ marksI 1 k).flatMap Ins.cells) ∧ But [] w wr) (fun _ i _ => 12 - (intOf i).toNat)
  case atStart => exact ⟨0, by omega, rfl, by simp, HO1.out, HB1.out⟩
  case round =>
    obtain ⟨k, hk, rfl, rfl, ho, hb⟩ := hrel
    have HO := Lib.hid ho
    have HB := Lib.hid hb
    clear ho hb HO1 HB1
    by_cases hlt : k < 12
    · have HONE : Hid (∀ u ∈ (mI 1 k).cells, u.oneCell' = true) := Lib.hid (by have := flat_oneI [mI 1 k]; simpa using this)
      go_wp2_with fail
      refine (markInstr _ _ _).mono ?_
      rintro e w1 ⟨rfl, hb1⟩
      have HB1 := Lib.hid (HB.out.trans hb1 (by simp))
      have HOW : Hid ((w1.alloc (.cells #[.int .u8 0, .int .u8 0, .int .u8 0, .int .i16 0, .int .i32 (wI 1 k)] 27)).ownsRow 0 27 5 (.slice (some ⟨w.heap.size, 0, none⟩) (l.length + k) (l.length + 12)) (l.length + k) ((l ++ marksI 1 k).flatMap Ins.cells)) := Lib.hid (ownsRow_but HO.out (hb1.alloc _) (by simp))
      have HNEW : Hid (∀ (j : Nat) (u : Value), (mI 1 k).cells[j]? = some u → (w1.alloc (.cells #[.int .u8 0, .int .u8 0, .int .u8 0, .int .i16 0, .int .i32 (wI 1 k)] 27)).cell? ((⟨w1.heap.size, 0, none⟩ : Addr).add j) = some u) := Lib.hid fun j u hj => by
        rw [add_at, Nat.zero_add, cl_of (al_at _ _)]
        simpa [mI, Ins.cells] using hj
      clear hb1
      go_wp2_with (at_builtin; refine wpList_append_fits _ rfl _ _ 28 rfl 0 27 i0 5 Tryz.underlying28 hi hz1 w.heap.size (l.length + k) (l.length + 12) ((l ++ marksI 1 k).flatMap Ins.cells) rfl HOW.out ⟨w1.heap.size, 0, none⟩ 1 1 (mI 1 k).cells rfl rfl HNEW.out HONE.out (by omega) ?_; intro w2 hown2 hgrow2)
      have hb2 : But [] w w2 := (HB1.out.alloc _).grown hgrow2 (fun k hk => .inr (by cases hk; exact Nat.le_refl _))
      have ho2 : w2.ownsRow 0 27 5 (.slice (some ⟨w.heap.size, 0, none⟩) (l.length + (k + 1)) (l.length + 12)) (l.length + (k + 1)) ((l ++ marksI 1 (k + 1)).flatMap Ins.cells) := by
        rw [marksI_succ, ← List.append_assoc, List.flatMap_append]
        simpa [Nat.add_assoc] using hown2
      have HB2 := Lib.hid hb2
      have HO2 := Lib.hid ho2
      clear hb2 ho2 hown2 hgrow2
      go_roundw
      case rel => exact ⟨k + 1, by omega, by go_num, rfl, HO2.out, HB2.out⟩
      case measure => simp [intOf]; omega
    · obtain rfl : k = 12 := by omega
      go_wp2_with fail
      go_ret
      refine ⟨_, rfl, ⟨_, rfl, ?_⟩, rfl, HB.out⟩
      unfold RowI
      rw [List.length_append, marksI_len]
      exact HO.out
end Go.Proofs.YtddeckkcfcodbaaGreat.M
