/-
  hatchwaykit.flatProgram: the walk, the first loop; the whole.
-/
import Derived.Test.YtddeckkcfcodbaaGreatFlatIC
import Derived.Deep.DeepCutAuto
import Derived.Deep.CutBlock
import Derived.BigQuiet
import Derived.Deep.QuietTactic
import Derived.StillTailTactics
import Derived.Deep.DrawnRows
namespace Go.Proofs.YtddeckkcfcodbaaGreat.M
open Go.RowKit Go.Shelf
set_option linter.unusedVariables false
set_option linter.unusedSectionVars false
set_option linter.unusedSimpArgs false
/-- Rows whose first k are marked. -/
def Part1I (w wr : World) (vals : List Value) (n : Nat → Nat) (ls : Value) (k : Nat) (f : Nat → List Ins) : Prop :=
  RowsI wr vals f ∧ (∀ j, j < vals.length → (f j).length = n j) ∧ (∀ j, j < k → j < vals.length → f j = marksI j (n j)) ∧ OwnQ wr 28 ls vals ∧ But (blks vals) w wr
theorem Part1I.new {w wr w' : World} {vals : List Value} {n : Nat → Nat} {ls : Value} {k : Nat} {f : Nat → List Ins} (h : Part1I w wr vals n ls k f) (hb : But [] wr w') : Part1I w w' vals n ls k f :=
  ⟨fun k v hv => (h.1 k v hv).but hb (by simp), h.2.1, h.2.2.1, h.2.2.2.1.but hb (by simp), h.2.2.2.2.trans hb (by simp)⟩
theorem part1I_set {w wr : World} {vals : List Value} {n : Nat → Nat} {ls : Value} {k i g c : Nat} {f : Nat → List Ins} (h : Part1I w wr vals n ls k f) (hA : ApartV vals) (hv : vals[k]? = some (.slice (some ⟨g, 0, none⟩) (n k) c)) (hi : i < n k) (x : Ins) :
    Part1I w (wr.setCells g (i * 5) x.cells) vals n ls k (fun j => if j = k then (f k).set i x else f j) := by
  obtain ⟨h1, h2, h3, h4, h5⟩ := h
  have hk : k < vals.length := (List.getElem?_eq_some_iff.1 hv).1
  have hs := (h1 k _ hv).set i (by rw [h2 k hk]; exact hi) x
  have hb : But (Value.slice (some ⟨g, 0, none⟩) (n k) c).ownBlock.toList wr (wr.setCells g (i * 5) x.cells) := but_set5 wr g (i * 5) x
  refine ⟨rowsI_set h1 hA hv hb hs, fun j hj => ?_, fun j hj hjl => ?_, lsI_keep h1 h4 hv hb, but_row h5 hv hb⟩
  · dsimp only
    by_cases e : j = k
    · subst e; rw [if_pos rfl, List.length_set]; exact h2 j hk
    · rw [if_neg e]; exact h2 j hj
  · dsimp only
    rw [if_neg (by omega)]; exact h3 j hj hjl
theorem part1I_take {xs : List Ins} {k i : Nat} (h : xs.take i = marksI k i) (hi : i < xs.length) : (xs.set i (mI k i)).take (i + 1) = marksI k (i + 1) := by
  rw [marksI_succ, List.take_add_one, List.take_set_of_le (Nat.le_refl _), h, List.getElem?_set_self hi]
  rfl
theorem part1I_done {w wr : World} {vals : List Value} {n : Nat → Nat} {ls : Value} {k : Nat} {f : Nat → List Ins} (h : Part1I w wr vals n ls k f) (hk : k < vals.length) (ht : (f k).take (n k) = marksI k (n k)) : Part1I w wr vals n ls (k + 1) f := by
  obtain ⟨h1, h2, h3, h4, h5⟩ := h
  refine ⟨h1, h2, fun j hj hjl => ?_, h4, h5⟩
  by_cases e : j = k
  · subst e
    rw [List.take_of_length_le (by rw [h2 j hk]; exact Nat.le_refl _)] at ht
    exact ht
  · exact h3 j (by omega) hjl
theorem part1I_fs {w wr : World} {vals : List Value} {n : Nat → Nat} {ls : Value} {f : Nat → List Ins} (h : Part1I w wr vals n ls vals.length f) : FI w wr vals n ls :=
  ⟨fun k v hv => by
    have hk := (List.getElem?_eq_some_iff.1 hv).1
    have h2 := h.1 k v hv
    rw [h.2.2.1 k hk hk] at h2
    exact h2, h.2.2.2.1, h.2.2.2.2⟩
theorem madeI_len (z : Array Value) (m : Nat) : (madeCells z m).toList.length = m := by simp [madeCells]
theorem madeI_grown {w w2 : World} {vals : List Value} {n : Nat → Nat} (hK : vals.length ≤ 1000000) : Grown3I w (w2.alloc (.cells (madeCells #[.slice none 0 0] vals.length) 28)) vals n (.slice (some ⟨w2.heap.size, 0, none⟩) vals.length vals.length) 0 := by
  refine ⟨(madeCells #[.slice none 0 0] vals.length).toList, madeI_len _ _, .inr ⟨w2.heap.size, 0, vals.length, madeCells #[.slice none 0 0] vals.length, ?_, Array.getElem?_push_size, ?_, ?_, ?_, fun j u hj => by simpa using hj⟩, fun j G v hj => by omega⟩
  · rw [madeI_len]
  · rw [madeI_len]; exact Nat.le_refl _
  · unfold maxLen; omega
  · rw [size_madeCells]; omega
noncomputable def code_gl2 : Code := dropSeqI 2 (Tryz.f54.body.getD .skip)
set_option maxRecDepth 100000 in
set_option maxHeartbeats 4000000 in
theorem gl2 {w : World} {vals : List Value} {n : Nat → Nat} {lg lo lc : Nat}  {w1 : World} {u1 u2 u3 u4 u5 u6 u7 u8 u9 u10 u11 u12 u13 u14 u15 u16 u17 u18 u19 u20 u21 u22 u23 u24 u25 u26 u27 u28 u29 u30 u31 u32 u33 u34 u35 u36 u37 u38 u39 u40 u41 u42 u43 u44 u45 u46 u47 u48 u49 u50 u51 u52 u53 u54 u55 u56 u57 u58 u59 u60 u61 u62 u63 u64 u65 u66 u67 u68 u69 u70 u71 u72 u73 u74 u75 u76 u77 u78 u79 u80 u81 u82 u83 u84 u85 u86 u87 u88 u89 u90 u91 u92 u93 u94 u95 u96 u97 u98 u99 u100 u101 u102 u103 u104 u105 u106 u107 u108 u109 u110 u111 u112 u113 u114 u115 u116 u117 u118 u119 u120 u121 u122 u123 u124 u125 u126 u127 u128 u129 u130 u131 u132 u133 u134 u135 u136 u137 u138 u139 u140 u141 u142 u143 u144 u145 u146 u147 u148 u149 u150 u151 u152 u153 u154 u155 u156 u157 u158 u159 u160 u161 u162 u163 u164 u165 u166 u167 u168 u169 u170 u171 u172 u173 u174 u175 u176 u177 u178 u179 u180 u181 u182 u183 u184 u185 u186 u187 u188 u189 u190 u191 u192 : Value} (HA : Hid (ApartV vals)) (HN : Hid (∀ (k : Nat) (v : Value), vals[k]? = some v → (∃ a c, v = .slice a (n k) c) ∧ n k ≤ 1000000000000)) (hK : vals.length ≤ 1000000) (HLOW : Hid (∀ (k : Nat) (v : Value) (b : Nat), vals[k]? = some v → v.ownBlock = some b → b < w.heap.size)) (hlg : lg < w.heap.size) (HF : Hid (FI w w1 vals n (.slice (some ⟨lg, lo, none⟩) vals.length lc))) :
    Code.wp Tryz.prog code_gl2 (bodyPost Tryz.prog Tryz.f54 fun e w' => e = .returned (.bool true) ∧ But (blks vals) w w') { tmps := List.toArray (.slice (some ⟨lg, lo, none⟩) vals.length lc :: u1 :: u2 :: u3 :: u4 :: u5 :: u6 :: u7 :: u8 :: u9 :: u10 :: u11 :: u12 :: u13 :: u14 :: u15 :: u16 :: u17 :: u18 :: u19 :: u20 :: u21 :: u22 :: u23 :: u24 :: u25 :: u26 :: u27 :: u28 :: u29 :: u30 :: u31 :: u32 :: u33 :: u34 :: u35 :: u36 :: u37 :: u38 :: u39 :: u40 :: u41 :: u42 :: u43 :: u44 :: u45 :: u46 :: u47 :: u48 :: u49 :: u50 :: u51 :: u52 :: u53 :: u54 :: u55 :: u56 :: u57 :: u58 :: u59 :: u60 :: u61 :: u62 :: u63 :: u64 :: u65 :: u66 :: u67 :: u68 :: u69 :: u70 :: u71 :: u72 :: u73 :: u74 :: u75 :: u76 :: u77 :: u78 :: u79 :: u80 :: u81 :: u82 :: u83 :: u84 :: u85 :: u86 :: u87 :: u88 :: u89 :: u90 :: u91 :: u92 :: u93 :: u94 :: u95 :: u96 :: u97 :: u98 :: u99 :: u100 :: u101 :: u102 :: u103 :: u104 :: u105 :: u106 :: u107 :: u108 :: u109 :: u110 :: u111 :: u112 :: u113 :: u114 :: u115 :: u116 :: u117 :: u118 :: u119 :: u120 :: u121 :: u122 :: u123 :: u124 :: u125 :: u126 :: u127 :: u128 :: u129 :: u130 :: u131 :: u132 :: u133 :: u134 :: u135 :: u136 :: u137 :: u138 :: u139 :: u140 :: u141 :: u142 :: u143 :: u144 :: u145 :: u146 :: u147 :: u148 :: u149 :: u150 :: u151 :: u152 :: u153 :: u154 :: u155 :: u156 :: u157 :: u158 :: u159 :: u160 :: u161 :: u162 :: u163 :: u164 :: u165 :: u166 :: u167 :: u168 :: u169 :: u170 :: u171 :: u172 :: u173 :: u174 :: u175 :: u176 :: u177 :: u178 :: u179 :: u180 :: u181 :: u182 :: u183 :: u184 :: u185 :: u186 :: u187 :: u188 :: u189 :: u190 :: u191 :: u192 :: []), defers := [] } w1 := by
  conv => arg 2; whnf
  obtain ⟨i0, hi, hz0, hz1, hz2⟩ := info_parts (show (Tryz.prog.info? 28).map (fun i => (i.zero, i.size, i.bytes)) = some (some (.slice none 0 0), 1, 24) by kernel_rfl)
  have hmk : ∀ w, (Instr.makeSlice 62 (.int .i64 (vals.length : Int)) (.int .i64 (vals.length : Int))).run Tryz.prog w = .ok (.slice (some ⟨w.heap.size, 0, none⟩) vals.length vals.length) (w.alloc (.cells (madeCells #[.slice none 0 0] vals.length) 28)) := fun w => by
    have h := run_make (P := Tryz.prog) w 62 28 i0 (.slice none 0 0) Tryz.underlying62 hi hz0 .i64 .i64 (vals.length : Int) (vals.length : Int) (by omega) (by omega) (by rw [hz2]; omega) (by omega)
    rw [h, hz1]
    simp only [Int.toNat_natCast, Nat.mul_one]
    rfl
  go_upto_region 8 with fail
  go_cut [5] (fun s wx => s = .slice (some ⟨w1.heap.size, 0, none⟩) vals.length vals.length ∧ wx = w1.alloc (.cells (madeCells #[.slice none 0 0] vals.length) 28))
  case first =>
    go_wp2_with fail
    go_meet
    exact ⟨rfl, rfl⟩
  case rest =>
    obtain ⟨rfl, rfl⟩ := hcut
    refine (by assumption : ∀ (a : Act) (w1 : World), Code.wp Tryz.prog _ _ a w1 → _) _ _ ?_
    exact gl3 HA HN hK HLOW hlg (Lib.hid (HF.out.new ((But.refl [] _).alloc _))) HF.out.but.size (Lib.hid (madeI_grown hK))
noncomputable def code_r7 : Code := ((Tryz.f54.body.getD .skip |> regionOf5 7).getD .skip)
set_option maxRecDepth 100000 in
set_option maxHeartbeats 8000000 in
theorem reg7 (Q : Exit → Act → World → Prop) {wr : World} {vals : List Value} {n : Nat → Nat} {lg lo lc g c k j : Nat} {fk : List Ins} {u : Ins} (L3 : Hid (wr.cell? ⟨lg, lo + k, none⟩ = some (.slice (some ⟨g, 0, none⟩) (n k) c))) (HO : Hid (OwnI wr (.slice (some ⟨g, 0, none⟩) (n k) c) fk)) (HU : Hid (fk[j]? = some u)) (hk1 : (k : Int) < vals.length) (hj1 : (j : Int) < n k) {u1 u2 u5 u6 u7 u8 u9 u10 u11 u12 u13 u14 u15 u20 u21 u29 u30 u31 u32 u33 u34 u35 u36 u37 u38 u39 u40 u41 u42 u43 u44 u45 u46 u47 u48 u49 u50 u51 u52 u53 u54 u55 u56 u57 u58 u59 u60 u61 u62 u63 u64 u65 u66 u67 u68 u69 u70 u71 u72 u73 u74 u75 u76 u77 u78 u79 u80 u81 u82 u83 u84 u85 u86 u87 u88 u89 u90 u91 u92 u93 u94 u95 u96 u97 u98 u99 u100 u101 u102 u103 u104 u105 u106 u107 u108 u109 u110 u111 u112 u113 u114 u115 u116 u117 u118 u119 u120 u121 u122 u123 u124 u125 u126 u127 u128 u129 u130 u131 u132 u133 u134 u135 u136 u137 u138 u139 u140 u141 u142 u143 u144 u145 u146 u147 u148 u149 u150 u151 u152 u153 u154 u155 u156 u157 u158 u159 u160 u161 u162 u163 u164 u165 u166 u167 u168 u169 u170 u171 u172 u173 u174 u175 u176 u177 u178 u179 u180 u181 u182 u183 u184 u185 u186 u187 u188 u189 u190 u191 u192 : Value} (hQ : ∀ (z31 z32 z33 z34 z35 z36 z37 z38 z39 : Value) (w5 : World), But [] wr w5 → Q .normal { tmps := List.toArray (Value.slice (some { block := lg, off := lo }) vals.length lc :: u1 :: u2 :: Value.int IntKind.i64 ↑k :: Value.int IntKind.i64 ↑j :: u5 :: u6 :: u7 :: u8 :: u9 :: u10 :: u11 :: u12 :: u13 :: u14 :: u15 :: Value.int IntKind.i64 ↑k :: Value.slice (some { block := lg, off := lo }) vals.length lc :: Value.int IntKind.i64 ↑vals.length :: Value.bool true :: u20 :: u21 :: Value.int IntKind.i64 ↑j :: Value.slice (some { block := lg, off := lo }) vals.length lc :: Value.int IntKind.i64 ↑k :: Value.pointer (some { block := lg, off := lo + k }) :: Value.slice (some { block := g, off := 0 }) (n k) c :: Value.int IntKind.i64 ↑(n k) :: Value.bool true :: u29 :: u30 :: z31 :: z32 :: z33 :: z34 :: z35 :: z36 :: z37 :: z38 :: z39 :: u40 :: u41 :: u42 :: u43 :: u44 :: u45 :: u46 :: u47 :: u48 :: u49 :: u50 :: u51 :: u52 :: u53 :: u54 :: u55 :: u56 :: u57 :: u58 :: u59 :: u60 :: u61 :: u62 :: u63 :: u64 :: u65 :: u66 :: u67 :: u68 :: u69 :: u70 :: u71 :: u72 :: u73 :: u74 :: u75 :: u76 :: u77 :: u78 :: u79 :: u80 :: u81 :: u82 :: u83 :: u84 :: u85 :: u86 :: u87 :: u88 :: u89 :: u90 :: u91 :: u92 :: u93 :: u94 :: u95 :: u96 :: u97 :: u98 :: u99 :: u100 :: u101 :: u102 :: u103 :: u104 :: u105 :: u106 :: u107 :: u108 :: u109 :: u110 :: u111 :: u112 :: u113 :: u114 :: u115 :: u116 :: u117 :: u118 :: u119 :: u120 :: u121 :: u122 :: u123 :: u124 :: u125 :: u126 :: u127 :: u128 :: u129 :: u130 :: u131 :: u132 :: u133 :: u134 :: u135 :: u136 :: u137 :: u138 :: u139 :: u140 :: u141 :: u142 :: u143 :: u144 :: u145 :: u146 :: u147 :: u148 :: u149 :: u150 :: u151 :: u152 :: u153 :: u154 :: u155 :: u156 :: u157 :: u158 :: u159 :: u160 :: u161 :: u162 :: u163 :: u164 :: u165 :: u166 :: u167 :: u168 :: u169 :: u170 :: u171 :: u172 :: u173 :: u174 :: u175 :: u176 :: u177 :: u178 :: u179 :: u180 :: u181 :: u182 :: u183 :: u184 :: u185 :: u186 :: u187 :: u188 :: u189 :: u190 :: u191 :: u192 :: []), defers := [] } (((((w5.setCell ⟨g, j * 5, none⟩ (.int .u8 0)).setCell ⟨g, j * 5 + 1, none⟩ (.int .u8 0)).setCell ⟨g, j * 5 + 2, none⟩ (.int .u8 0)).setCell ⟨g, j * 5 + 3, none⟩ (.int .i16 0)).setCell ⟨g, j * 5 + 4, none⟩ (.int .i32 (wI k j)))) :
    Code.wp Tryz.prog code_r7 Q { tmps := List.toArray (Value.slice (some { block := lg, off := lo }) vals.length lc :: u1 :: u2 :: Value.int IntKind.i64 ↑k :: Value.int IntKind.i64 ↑j :: u5 :: u6 :: u7 :: u8 :: u9 :: u10 :: u11 :: u12 :: u13 :: u14 :: u15 :: Value.int IntKind.i64 ↑k :: Value.slice (some { block := lg, off := lo }) vals.length lc :: Value.int IntKind.i64 ↑vals.length :: Value.bool true :: u20 :: u21 :: Value.int IntKind.i64 ↑j :: Value.slice (some { block := lg, off := lo }) vals.length lc :: Value.int IntKind.i64 ↑k :: Value.pointer (some { block := lg, off := lo + k }) :: Value.slice (some { block := g, off := 0 }) (n k) c :: Value.int IntKind.i64 ↑(n k) :: Value.bool true :: u29 :: u30 :: u31 :: u32 :: u33 :: u34 :: u35 :: u36 :: u37 :: u38 :: u39 :: u40 :: u41 :: u42 :: u43 :: u44 :: u45 :: u46 :: u47 :: u48 :: u49 :: u50 :: u51 :: u52 :: u53 :: u54 :: u55 :: u56 :: u57 :: u58 :: u59 :: u60 :: u61 :: u62 :: u63 :: u64 :: u65 :: u66 :: u67 :: u68 :: u69 :: u70 :: u71 :: u72 :: u73 :: u74 :: u75 :: u76 :: u77 :: u78 :: u79 :: u80 :: u81 :: u82 :: u83 :: u84 :: u85 :: u86 :: u87 :: u88 :: u89 :: u90 :: u91 :: u92 :: u93 :: u94 :: u95 :: u96 :: u97 :: u98 :: u99 :: u100 :: u101 :: u102 :: u103 :: u104 :: u105 :: u106 :: u107 :: u108 :: u109 :: u110 :: u111 :: u112 :: u113 :: u114 :: u115 :: u116 :: u117 :: u118 :: u119 :: u120 :: u121 :: u122 :: u123 :: u124 :: u125 :: u126 :: u127 :: u128 :: u129 :: u130 :: u131 :: u132 :: u133 :: u134 :: u135 :: u136 :: u137 :: u138 :: u139 :: u140 :: u141 :: u142 :: u143 :: u144 :: u145 :: u146 :: u147 :: u148 :: u149 :: u150 :: u151 :: u152 :: u153 :: u154 :: u155 :: u156 :: u157 :: u158 :: u159 :: u160 :: u161 :: u162 :: u163 :: u164 :: u165 :: u166 :: u167 :: u168 :: u169 :: u170 :: u171 :: u172 :: u173 :: u174 :: u175 :: u176 :: u177 :: u178 :: u179 :: u180 :: u181 :: u182 :: u183 :: u184 :: u185 :: u186 :: u187 :: u188 :: u189 :: u190 :: u191 :: u192 :: []), defers := [] } wr := by
  have HQ := Lib.hid hQ
  clear hQ
  obtain ⟨z, hz⟩ : ∃ z : Int, z = wI k j := ⟨_, rfl⟩
  have HZ := Lib.hid hz
  clear hz
  conv => arg 2; whnf
  refine wp_region_flowS 9 (by decide) (by kernel_rfl) (But []) (fun _ _ _ h1 h2 => h1.trans h2 (by simp)) (⟨rfl, rfl, rfl, Nat.le_refl _, fun _ _ _ => rfl⟩) (GV [.slice (some ⟨lg, lo, none⟩) vals.length lc, .int .i64 (k : Int), .pointer (some ⟨lg, lo + k, none⟩), .slice (some ⟨g, 0, none⟩) (n k) c, .int .i64 (j : Int), .int .i64 (k : Int), .int .i64 (j : Int), .agg #[.int .u8 0, .int .u8 0, .int .u8 0, .int .i16 0, .int .i32 z], .pointer (some ⟨g, j * 5, none⟩)]) [[], [], [(0, 31), (1, 32)], [(2, 33)], [], [], [], [(5, 36), (6, 37)], [(3, 34), (4, 35)]] [[(0, .slice (some ⟨lg, lo, none⟩) vals.length lc)], [(3, .int .i64 (k : Int))], [], [], [(4, .int .i64 (j : Int))], [(3, .int .i64 (k : Int))], [(4, .int .i64 (j : Int))], [], []] (by kernel_rfl) (by kernel_rfl) (by kernel_rfl) (by kernel_rfl) ?_ (fun _ _ _ _ _ h _ => h) [none, none, none, none, none, none, none, none, none, none, none, none, none, none, none, none, none, none, none, none, none, none, none, none, none, none, none, none, none, none, none, some 31, some 32, some 33, some 34, some 35, some 36, some 37, some 38, some 39, none, none, none, none, none, none, none, none, none, none, none, none, none, none, none, none, none, none, none, none, none, none, none, none, none, none, none, none, none, none, none, none, none, none, none, none, none, none, none, none, none, none, none, none, none, none, none, none, none, none, none, none, none, none, none, none, none, none, none, none, none, none, none, none, none, none, none, none, none, none, none, none, none, none, none, none, none, none, none, none, none, none, none, none, none, none, none, none, none, none, none, none, none, none, none, none, none, none, none, none, none, none, none, none, none, none, none, none, none, none, none, none, none, none, none, none, none, none, none, none, none, none, none, none, none, none, none, none, none, none, none, none, none, none, none, none, none, none, none, none, none, none, none, none, none, none, none, none, none, none, none, none, none] (by kernel_rfl) (by rfl) ?_ ?_
  · exact ⟨⟨rfl, trivial⟩, ⟨rfl, trivial⟩, trivial, trivial, ⟨rfl, trivial⟩, ⟨rfl, trivial⟩, ⟨rfl, trivial⟩, trivial, trivial, trivial⟩
  · simp only [List.take_succ_cons, List.take_zero]
    -- 31
    refine ⟨fun a9 w9 hR hk hf => ?_, ?_⟩
    · simp only [KnowF, FreeF, and_true] at hk hf
      have e0 : a9.tmps[0]?.getD undef = .slice (some ⟨lg, lo, none⟩) vals.length lc := freeF_ev hf
      exact flow_on (rfl) (flow_run (v := .slice (some ⟨lg, lo, none⟩) vals.length lc) (by go_simp) (But.refl _ _) (GV.of rfl))
    -- 32
    refine ⟨fun a9 w9 hR hk hf => ?_, ?_⟩
    · simp only [KnowF, FreeF, and_true] at hk hf
      have e3 : a9.tmps[3]?.getD undef = .int .i64 (k : Int) := freeF_ev hf
      exact flow_on (rfl) (flow_run (v := .int .i64 (k : Int)) (by go_simp) (But.refl _ _) (GV.of rfl))
    -- 33
    refine ⟨fun a9 w9 hR hk hf => ?_, ?_⟩
    · simp only [KnowF, FreeF, and_true] at hk hf
      have e31 := (hk.1).ev (v := .slice (some ⟨lg, lo, none⟩) vals.length lc) rfl
      have e32 := (hk.2).ev (v := .int .i64 (k : Int)) rfl
      exact flow_on (rfl) (flow_run (v := .pointer (some ⟨lg, lo + k, none⟩)) (by go_simp) (But.refl _ _) (GV.of rfl))
    -- 34
    refine ⟨fun a9 w9 hR hk hf => ?_, ?_⟩
    · simp only [KnowF, FreeF, and_true] at hk hf
      have e33 := (hk).ev (v := .pointer (some ⟨lg, lo + k, none⟩)) rfl
      have f0 := cell_but hR L3.out (by simp)
      exact flow_on (rfl) (flow_run (v := .slice (some ⟨g, 0, none⟩) (n k) c) (by go_simp) (But.refl _ _) (GV.of rfl))
    -- 35
    refine ⟨fun a9 w9 hR hk hf => ?_, ?_⟩
    · simp only [KnowF, FreeF, and_true] at hk hf
      have e4 : a9.tmps[4]?.getD undef = .int .i64 (j : Int) := freeF_ev hf
      exact flow_on (rfl) (flow_run (v := .int .i64 (j : Int)) (by go_simp) (But.refl _ _) (GV.of rfl))
    -- 36
    refine ⟨fun a9 w9 hR hk hf => ?_, ?_⟩
    · simp only [KnowF, FreeF, and_true] at hk hf
      have e3 : a9.tmps[3]?.getD undef = .int .i64 (k : Int) := freeF_ev hf
      exact flow_on (rfl) (flow_run (v := .int .i64 (k : Int)) (by go_simp) (But.refl _ _) (GV.of rfl))
    -- 37
    refine ⟨fun a9 w9 hR hk hf => ?_, ?_⟩
    · simp only [KnowF, FreeF, and_true] at hk hf
      have e4 : a9.tmps[4]?.getD undef = .int .i64 (j : Int) := freeF_ev hf
      exact flow_on (rfl) (flow_run (v := .int .i64 (j : Int)) (by go_simp) (But.refl _ _) (GV.of rfl))
    -- 38
    refine ⟨fun a9 w9 hR hk hf => ?_, ?_⟩
    · simp only [KnowF, FreeF, and_true] at hk hf
      have e36 := (hk.1).ev (v := .int .i64 (k : Int)) rfl
      have e37 := (hk.2).ev (v := .int .i64 (j : Int)) rfl
      exact flow_on (rfl) (flow_call (f := 31) (args := #[.int .i64 (k : Int), .int .i64 (j : Int)]) (by go_simp) ((markInstr _ _ _).mono (by rintro e w' ⟨rfl, hb⟩; exact ⟨_, rfl, hb, GV.of (by rw [← HZ.out]; rfl)⟩)))
    -- 39
    refine ⟨fun a9 w9 hR hk hf => ?_, ?_⟩
    · simp only [KnowF, FreeF, and_true] at hk hf
      have e34 := (hk.1).ev (v := .slice (some ⟨g, 0, none⟩) (n k) c) rfl
      have e35 := (hk.2).ev (v := .int .i64 (j : Int)) rfl
      exact flow_on (rfl) (flow_run (v := .pointer (some ⟨g, j * 5, none⟩)) (by go_simp) (But.refl _ _) (GV.of rfl))
    exact trivial
  · intro f w5 hb5 hG
    have e38 : f 38 = .agg #[.int .u8 0, .int .u8 0, .int .u8 0, .int .i16 0, .int .i32 (wI k j)] := by rw [← HZ.out]; exact hG 7 _ 38 (by decide) rfl rfl _ rfl
    have e39 : f 39 = .pointer (some ⟨g, j * 5, none⟩) := hG 8 _ 39 (by decide) rfl rfl _ rfl
    have ho := HO.out.but hb5 (by simp)
    obtain ⟨c0, c1, c2, c3, c4⟩ := ho.at5 HU.out
    obtain ⟨f0, f1, f2, f3, f4⟩ := (⟨ho.frozenAt (j * 5), ho.frozenAt (j * 5 + 1), ho.frozenAt (j * 5 + 2), ho.frozenAt (j * 5 + 3), ho.frozenAt (j * 5 + 4)⟩ : _ ∧ _ ∧ _ ∧ _ ∧ _)
    have HB5 := Lib.hid hb5
    clear hG hb5
    simp only [List.drop_succ_cons, List.drop_zero]
    show wpList _ _ _ _ { tmps := List.toArray (Value.slice (some { block := lg, off := lo }) vals.length lc :: u1 :: u2 :: Value.int IntKind.i64 ↑k :: Value.int IntKind.i64 ↑j :: u5 :: u6 :: u7 :: u8 :: u9 :: u10 :: u11 :: u12 :: u13 :: u14 :: u15 :: Value.int IntKind.i64 ↑k :: Value.slice (some { block := lg, off := lo }) vals.length lc :: Value.int IntKind.i64 ↑vals.length :: Value.bool true :: u20 :: u21 :: Value.int IntKind.i64 ↑j :: Value.slice (some { block := lg, off := lo }) vals.length lc :: Value.int IntKind.i64 ↑k :: Value.pointer (some { block := lg, off := lo + k }) :: Value.slice (some { block := g, off := 0 }) (n k) c :: Value.int IntKind.i64 ↑(n k) :: Value.bool true :: u29 :: u30 :: f 31 :: f 32 :: f 33 :: f 34 :: f 35 :: f 36 :: f 37 :: f 38 :: f 39 :: u40 :: u41 :: u42 :: u43 :: u44 :: u45 :: u46 :: u47 :: u48 :: u49 :: u50 :: u51 :: u52 :: u53 :: u54 :: u55 :: u56 :: u57 :: u58 :: u59 :: u60 :: u61 :: u62 :: u63 :: u64 :: u65 :: u66 :: u67 :: u68 :: u69 :: u70 :: u71 :: u72 :: u73 :: u74 :: u75 :: u76 :: u77 :: u78 :: u79 :: u80 :: u81 :: u82 :: u83 :: u84 :: u85 :: u86 :: u87 :: u88 :: u89 :: u90 :: u91 :: u92 :: u93 :: u94 :: u95 :: u96 :: u97 :: u98 :: u99 :: u100 :: u101 :: u102 :: u103 :: u104 :: u105 :: u106 :: u107 :: u108 :: u109 :: u110 :: u111 :: u112 :: u113 :: u114 :: u115 :: u116 :: u117 :: u118 :: u119 :: u120 :: u121 :: u122 :: u123 :: u124 :: u125 :: u126 :: u127 :: u128 :: u129 :: u130 :: u131 :: u132 :: u133 :: u134 :: u135 :: u136 :: u137 :: u138 :: u139 :: u140 :: u141 :: u142 :: u143 :: u144 :: u145 :: u146 :: u147 :: u148 :: u149 :: u150 :: u151 :: u152 :: u153 :: u154 :: u155 :: u156 :: u157 :: u158 :: u159 :: u160 :: u161 :: u162 :: u163 :: u164 :: u165 :: u166 :: u167 :: u168 :: u169 :: u170 :: u171 :: u172 :: u173 :: u174 :: u175 :: u176 :: u177 :: u178 :: u179 :: u180 :: u181 :: u182 :: u183 :: u184 :: u185 :: u186 :: u187 :: u188 :: u189 :: u190 :: u191 :: u192 :: []), defers := [] } w5
    go_wp2_with fail
    exact HQ.out _ _ _ _ _ _ _ _ _ _ HB5.out
noncomputable def code_gl1 : Code := dropSeqI 1 (Tryz.f54.body.getD .skip)
set_option maxRecDepth 100000 in
set_option maxHeartbeats 4000000 in
theorem gl1 {w : World} {vals : List Value} {n : Nat → Nat} {lg lo lc : Nat} {f0 : Nat → List Ins} {w1 : World} {u1 u2 u3 u4 u5 u6 u7 u8 u9 u10 u11 u12 u13 u14 u15 u16 u17 u18 u19 u20 u21 u22 u23 u24 u25 u26 u27 u28 u29 u30 u31 u32 u33 u34 u35 u36 u37 u38 u39 u40 u41 u42 u43 u44 u45 u46 u47 u48 u49 u50 u51 u52 u53 u54 u55 u56 u57 u58 u59 u60 u61 u62 u63 u64 u65 u66 u67 u68 u69 u70 u71 u72 u73 u74 u75 u76 u77 u78 u79 u80 u81 u82 u83 u84 u85 u86 u87 u88 u89 u90 u91 u92 u93 u94 u95 u96 u97 u98 u99 u100 u101 u102 u103 u104 u105 u106 u107 u108 u109 u110 u111 u112 u113 u114 u115 u116 u117 u118 u119 u120 u121 u122 u123 u124 u125 u126 u127 u128 u129 u130 u131 u132 u133 u134 u135 u136 u137 u138 u139 u140 u141 u142 u143 u144 u145 u146 u147 u148 u149 u150 u151 u152 u153 u154 u155 u156 u157 u158 u159 u160 u161 u162 u163 u164 u165 u166 u167 u168 u169 u170 u171 u172 u173 u174 u175 u176 u177 u178 u179 u180 u181 u182 u183 u184 u185 u186 u187 u188 u189 u190 u191 u192 : Value} (HA : Hid (ApartV vals)) (HN : Hid (∀ (k : Nat) (v : Value), vals[k]? = some v → (∃ a c, v = .slice a (n k) c) ∧ n k ≤ 1000000000000)) (hK : vals.length ≤ 1000000) (HLOW : Hid (∀ (k : Nat) (v : Value) (b : Nat), vals[k]? = some v → v.ownBlock = some b → b < w.heap.size)) (hlg : lg < w.heap.size) (HP : Hid (Part1I w w1 vals n (.slice (some ⟨lg, lo, none⟩) vals.length lc) 0 f0)) :
    Code.wp Tryz.prog code_gl1 (bodyPost Tryz.prog Tryz.f54 fun e w' => e = .returned (.bool true) ∧ But (blks vals) w w') { tmps := List.toArray (.slice (some ⟨lg, lo, none⟩) vals.length lc :: u1 :: u2 :: u3 :: u4 :: u5 :: u6 :: u7 :: u8 :: u9 :: u10 :: u11 :: u12 :: u13 :: u14 :: u15 :: u16 :: u17 :: u18 :: u19 :: u20 :: u21 :: u22 :: u23 :: u24 :: u25 :: u26 :: u27 :: u28 :: u29 :: u30 :: u31 :: u32 :: u33 :: u34 :: u35 :: u36 :: u37 :: u38 :: u39 :: u40 :: u41 :: u42 :: u43 :: u44 :: u45 :: u46 :: u47 :: u48 :: u49 :: u50 :: u51 :: u52 :: u53 :: u54 :: u55 :: u56 :: u57 :: u58 :: u59 :: u60 :: u61 :: u62 :: u63 :: u64 :: u65 :: u66 :: u67 :: u68 :: u69 :: u70 :: u71 :: u72 :: u73 :: u74 :: u75 :: u76 :: u77 :: u78 :: u79 :: u80 :: u81 :: u82 :: u83 :: u84 :: u85 :: u86 :: u87 :: u88 :: u89 :: u90 :: u91 :: u92 :: u93 :: u94 :: u95 :: u96 :: u97 :: u98 :: u99 :: u100 :: u101 :: u102 :: u103 :: u104 :: u105 :: u106 :: u107 :: u108 :: u109 :: u110 :: u111 :: u112 :: u113 :: u114 :: u115 :: u116 :: u117 :: u118 :: u119 :: u120 :: u121 :: u122 :: u123 :: u124 :: u125 :: u126 :: u127 :: u128 :: u129 :: u130 :: u131 :: u132 :: u133 :: u134 :: u135 :: u136 :: u137 :: u138 :: u139 :: u140 :: u141 :: u142 :: u143 :: u144 :: u145 :: u146 :: u147 :: u148 :: u149 :: u150 :: u151 :: u152 :: u153 :: u154 :: u155 :: u156 :: u157 :: u158 :: u159 :: u160 :: u161 :: u162 :: u163 :: u164 :: u165 :: u166 :: u167 :: u168 :: u169 :: u170 :: u171 :: u172 :: u173 :: u174 :: u175 :: u176 :: u177 :: u178 :: u179 :: u180 :: u181 :: u182 :: u183 :: u184 :: u185 :: u186 :: u187 :: u188 :: u189 :: u190 :: u191 :: u192 :: []), defers := [] } w1 := by
  conv => arg 2; whnf
  go_upto_block 0 with fail
  go_cut [] (fun wx => FI w wx vals n (.slice (some ⟨lg, lo, none⟩) vals.length lc))
  case first =>
    go_wp2_with fail
    go_loopw [3] (fun i wr => ∃ (k : Nat) (f : Nat → List Ins), k ≤ vals.length ∧ i = .int .i64 k ∧ Part1I w wr vals n (.slice (some ⟨lg, lo, none⟩) vals.length lc) k f) (fun i _ => vals.length - (intOf i).toNat)
    case atStart => exact ⟨0, _, Nat.zero_le _, rfl, HP.out⟩
    case round =>
      obtain ⟨k, f, hk, rfl, hP⟩ := hrel
      have HP1 := Lib.hid hP
      clear hP HP
      by_cases hlt : k < vals.length
      · obtain ⟨a, c, hv, hnk⟩ := valsI_at HN hlt
        have HV := Lib.hid hv
        have hk0 : (0 : Int) ≤ k := by omega
        have hk1 : (k : Int) < vals.length := by omega
        clear hv
        go_wp2_with fail
        go_loopw [4] (fun i wx => ∃ (j : Nat) (f : Nat → List Ins), j ≤ n k ∧ i = .int .i64 j ∧ Part1I w wx vals n (.slice (some ⟨lg, lo, none⟩) vals.length lc) k f ∧ (f k).take j = marksI k j) (fun i _ => n k - (intOf i).toNat)
        case atStart => exact ⟨0, f, Nat.zero_le _, rfl, HP1.out, by simp [marksI]⟩
        case round =>
          obtain ⟨j, f, hj, rfl, hP, ht⟩ := hrel
          have lc : wr.cell? ⟨lg, lo + k, none⟩ = some (.slice a (n k) c) := hP.2.2.2.1.cellAt HV.out
          have HP2 := Lib.hid hP
          have HT := Lib.hid ht
          clear hP ht HP1
          by_cases hjl : j < n k
          · have hP := HP2.out
            obtain ⟨g, rfl⟩ := (hP.1 k _ HV.out).addr (by omega)
            have hfl : (f k).length = n k := hP.2.1 k hlt
            obtain ⟨u, hu⟩ : ∃ u, (f k)[j]? = some u := ⟨_, List.getElem?_eq_getElem (by rw [hfl]; exact hjl)⟩
            have HO := Lib.hid (hP.1 k _ HV.out)
            have HU := Lib.hid hu
            have HT2 := Lib.hid (part1I_take HT.out (by rw [hfl]; exact hjl))
            have hj0 : (0 : Int) ≤ j := by omega
            have hj1 : (j : Int) < n k := by omega
            have L3 := Lib.hid lc
            clear hP hu hfl
            go_wp2_with fail
            refine reg7 _ L3 HO HU hk1 hj1 ?_
            intro z31 z32 z33 z34 z35 z36 z37 z38 z39 w5 hb5
            have hs := part1I_set (HP2.out.new hb5) HA.out HV.out hjl (mI k j)
            rw [set5] at hs
            have HS := Lib.hid hs
            clear hs hb5
            go_wp2_with fail
            go_roundw
            case rel => exact ⟨j + 1, _, by omega, by go_num, HS.out, by simpa using HT2.out⟩
            case measure => simp [intOf]; omega
          · obtain rfl : j = n k := by omega
            go_wp2_with fail
            go_roundw
            case rel => exact ⟨k + 1, f, by omega, by go_num, part1I_done HP2.out hlt HT.out⟩
            case measure => simp [intOf]; omega
      · obtain rfl : k = vals.length := by omega
        go_wp2_with fail
        go_meet
        exact part1I_fs HP1.out
  case rest =>
    refine (by assumption : ∀ (a : Act) (w1 : World), Code.wp Tryz.prog _ _ a w1 → _) _ _ ?_
    exact gl2 HA HN hK HLOW hlg (Lib.hid hcut)
set_option maxRecDepth 100000 in
set_option maxHeartbeats 2000000 in
theorem flatI_none (a : Option Addr) (c : Nat) (w : World) : Calls Tryz.prog 54 #[.slice a 0 c] w fun e w' => e = .returned (.bool true) ∧ But (blks []) w w' := by
  have hmk : ∀ w, (Instr.makeSlice 62 (.int .i64 0) (.int .i64 0)).run Tryz.prog w = .ok (.slice (some ⟨w.heap.size, 0, none⟩) 0 0) (w.alloc (.cells #[] 28)) := fun _ => by kernel_rfl
  go_enter Tryz.func54, Tryz.ntmps54
  go_wp2_with fail
  refine wp_loop_rounds 1 ?_
  rw [rounds_succ]
  go_wp2_with fail
  refine wp_loop_rounds 1 ?_
  rw [rounds_succ]
  go_wp2_with fail
  refine wp_loop_rounds 1 ?_
  rw [rounds_succ]
  go_wp2_with fail
  refine wp_loop_rounds 1 ?_
  rw [rounds_succ]
  go_wp2_with fail
  refine wp_loop_rounds 1 ?_
  rw [rounds_succ]
  go_wp2_with fail
  go_ret
  exact ⟨rfl, (But.refl _ _).alloc _⟩
set_option maxRecDepth 100000 in
set_option maxHeartbeats 2000000 in
theorem flatI_some {w : World} {vals : List Value} {n : Nat → Nat} {lg lo lc : Nat} {f : Nat → List Ins} (HA : Hid (ApartV vals)) (HN : Hid (∀ (k : Nat) (v : Value), vals[k]? = some v → (∃ a c, v = .slice a (n k) c) ∧ n k ≤ 1000000000000)) (hK : vals.length ≤ 1000000) (HLOW : Hid (∀ (k : Nat) (v : Value) (b : Nat), vals[k]? = some v → v.ownBlock = some b → b < w.heap.size)) (hlg : lg < w.heap.size) (HP : Hid (Part1I w w vals n (.slice (some ⟨lg, lo, none⟩) vals.length lc) 0 f)) : Calls Tryz.prog 54 #[.slice (some ⟨lg, lo, none⟩) vals.length lc] w fun e w' => e = .returned (.bool true) ∧ But (blks vals) w w' := by
  go_enter Tryz.func54, Tryz.ntmps54
  go_upto_region 0 with fail
  go_cut [] (fun wx => wx = w)
  case first =>
    go_wp2_with fail
    go_meet
    rfl
  case rest =>
    obtain rfl := hcut
    refine (by assumption : ∀ (a : Act) (w1 : World), Code.wp Tryz.prog _ _ a w1 → _) _ _ ?_
    exact gl1 HA HN hK HLOW hlg HP
/-- Rows that lie apart are found so. -/
theorem flatI (ls : Value) (vals : List Value) (n : Nat → Nat) (w : World) (hq : OwnQ w 28 ls vals) (hA : ApartV vals) (hN : ∀ (k : Nat) (v : Value), vals[k]? = some v → (∃ xs, OwnI w v xs ∧ xs.length = n k) ∧ n k ≤ 1000000000000) (hK : vals.length ≤ 1000000) :
    Calls Tryz.prog 54 #[ls] w fun e w' => e = .returned (.bool true) ∧ But (blks vals) w w' := by
  by_cases h0 : vals = []
  · subst h0
    obtain ⟨a, c, rfl⟩ := hq.form
    have hmk : ∀ w, (Instr.makeSlice 62 (.int .i64 0) (.int .i64 0)).run Tryz.prog w = .ok (.slice (some ⟨w.heap.size, 0, none⟩) 0 0) (w.alloc (.cells #[] 28)) := fun _ => by kernel_rfl
    exact flatI_none a c w
  · rcases hq with ⟨_, h1⟩ | ⟨lg, lo, lc, cur, rfl, hg, hc, hm, hs, hx⟩
    · exact absurd h1 h0
    · have hq : OwnQ w 28 (.slice (some ⟨lg, lo, none⟩) vals.length lc) vals := .inr ⟨lg, lo, lc, cur, rfl, hg, hc, hm, hs, hx⟩
      have pick : ∀ k, ∃ xs, ∀ v, vals[k]? = some v → OwnI w v xs ∧ xs.length = n k := fun k => by
        cases hv : vals[k]? with
        | none => exact ⟨[], fun v h => by cases h⟩
        | some v =>
          obtain ⟨⟨xs, h2, h3⟩, _⟩ := hN k v hv
          exact ⟨xs, fun u hu => by cases hu; exact ⟨h2, h3⟩⟩
      obtain ⟨f, hf⟩ := Classical.axiomOfChoice pick
      have HP : Hid (Part1I w w vals n (.slice (some ⟨lg, lo, none⟩) vals.length lc) 0 f) := Lib.hid ⟨fun k v hv => (hf k v hv).1, fun j hj => by
        obtain ⟨v, hv⟩ : ∃ v, vals[j]? = some v := ⟨_, List.getElem?_eq_getElem hj⟩
        exact (hf j v hv).2, fun j hj => by omega, hq, But.refl _ _⟩
      have HA := Lib.hid hA
      have HN : Hid (∀ (k : Nat) (v : Value), vals[k]? = some v → (∃ a c, v = .slice a (n k) c) ∧ n k ≤ 1000000000000) := Lib.hid fun k v hv => by
        obtain ⟨⟨xs, h2, h3⟩, h4⟩ := hN k v hv
        obtain ⟨a, c, e⟩ := h2.form
        exact ⟨⟨a, c, by rw [e, h3]⟩, h4⟩
      have HLOW : Hid (∀ (k : Nat) (v : Value) (b : Nat), vals[k]? = some v → v.ownBlock = some b → b < w.heap.size) := Lib.hid fun k v b hv hb => (hf k v hv).1.lt hb
      have hlg := lt_of hg
      exact flatI_some HA HN hK HLOW hlg HP
end Go.Proofs.YtddeckkcfcodbaaGreat.M
