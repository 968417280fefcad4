/-
  hatchwaykit.flatProgram: the walk, its last parts.
-/
import Derived.Test.YtddeckkcfcodbaaGreatRowI
import Derived.Deep.DeepCutAuto
import Derived.Deep.CutBlock
import Derived.BigQuiet
import Derived.Deep.QuietTactic
import Derived.StillTailTactics
import Derived.Deep.DrawnRows
namespace Go.Proofs.YtddeckkcfcodbaaGreat.M
open Go.RowKit Go.Shelf
set_option linter.unusedVariables false
set_option linter.unusedSectionVars false
set_option linter.unusedSimpArgs false
def dropSeqI : Nat → Code → Code
  | 0, c => c
  | n + 1, .seq _ c => dropSeqI n c
  | _, c => c
theorem valsI_at {vals : List Value} {n : Nat → Nat} {k : Nat} (HN : Hid (∀ (k : Nat) (v : Value), vals[k]? = some v → (∃ a c, v = .slice a (n k) c) ∧ n k ≤ 1000000000000)) (h : k < vals.length) : ∃ a c, vals[k]? = some (.slice a (n k) c) ∧ n k ≤ 1000000000000 := by
  obtain ⟨v, hv⟩ : ∃ v, vals[k]? = some v := ⟨_, List.getElem?_eq_getElem h⟩
  obtain ⟨⟨a, c, rfl⟩, h2⟩ := HN.out k v hv
  exact ⟨a, c, hv, h2⟩
/-- What was grown at last: each begins with its row's marksI. -/
def Grown5I (w wr : World) (vals : List Value) (n : Nat → Nat) (gs : Value) (K : Nat) : Prop := ∃ gv : List Value, gv.length = vals.length ∧ OwnQ wr 28 gs gv ∧
  ∀ (j : Nat) (G v : Value), j < K → gv[j]? = some G → vals[j]? = some v → ∃ xs, GI w.heap.size wr G v xs ∧ xs.length = n j + 64 ∧ xs.take (n j) = marksI j (n j)
theorem Grown5I.new {w wr w' : World} {vals : List Value} {n : Nat → Nat} {gs : Value} {K : Nat} (h : Grown5I w wr vals n gs K) (hb : But [] wr w') : Grown5I w w' vals n gs K := by
  obtain ⟨gv, h1, h2, h3⟩ := h
  exact ⟨gv, h1, h2.but hb (by simp), fun j G v hj hG hv => by
    obtain ⟨xs, h4, h5⟩ := h3 j G v hj hG hv
    exact ⟨xs, h4.new hb, h5⟩⟩
/-- What was grown at first: its row's marksI, and 64 more. -/
def Grown3I (w wr : World) (vals : List Value) (n : Nat → Nat) (gs : Value) (K : Nat) : Prop := ∃ gv : List Value, gv.length = vals.length ∧ OwnQ wr 28 gs gv ∧
  ∀ (j : Nat) (G v : Value), j < K → gv[j]? = some G → vals[j]? = some v → GI w.heap.size wr G v (marksI j (n j + 64))
theorem Grown3I.new {w wr w' : World} {vals : List Value} {n : Nat → Nat} {gs : Value} {K : Nat} (h : Grown3I w wr vals n gs K) (hb : But [] wr w') : Grown3I w w' vals n gs K := by
  obtain ⟨gv, h1, h2, h3⟩ := h
  exact ⟨gv, h1, h2.but hb (by simp), fun j G v hj hG hv => (h3 j G v hj hG hv).new hb⟩
/-- The block of a code that bears a number. -/
def regionOf5 (n : Nat) : Code → Option Code
  | .region k ops b => if k = n then some (.region k ops b) else none
  | .seq a b => match regionOf5 n a with
    | some c => some c
    | none => regionOf5 n b
  | .block _ c => regionOf5 n c
  | .loop c => regionOf5 n c
  | .scope c => regionOf5 n c
  | .cond _ a b => match regionOf5 n a with
    | some c => some c
    | none => regionOf5 n b
  | _ => none
noncomputable def code_r41 : Code := ((Tryz.f54.body.getD .skip |> regionOf5 41).getD .skip)
set_option maxRecDepth 100000 in
set_option maxHeartbeats 8000000 in
theorem reg41 (Q : Exit → Act → World → Prop) {wr : World} {vals : List Value} {n : Nat → Nat} {lg lo lc gb g gg c cg k j : Nat} (L3 : Hid (wr.cell? ⟨lg, lo + k, none⟩ = some (.slice (some ⟨g, 0, none⟩) (n k) c))) (G3' : Hid (wr.cell? ⟨gb, k, none⟩ = some (.slice (some ⟨gg, 0, none⟩) (n k + 64) cg))) (R1 : Hid (At5 wr g (j * 5) (mI k j))) (R2 : Hid (At5 wr gg (j * 5) (mI k j))) (hk1 : (k : Int) < vals.length) (hj1 : (j : Int) < n k) (hj2 : (j : Int) < (n k : Int) + 64) {u1 u2 u3 u4 u6 u7 u8 u9 u10 u11 u12 u13 u16 u17 u18 u19 u20 u21 u22 u23 u24 u25 u26 u27 u28 u29 u30 u31 u32 u33 u34 u35 u36 u37 u38 u39 u40 u41 u42 u43 u44 u45 u46 u47 u48 u49 u50 u51 u52 u53 u54 u55 u56 u57 u58 u59 u60 u61 u62 u63 u64 u65 u66 u67 u68 u69 u70 u71 u72 u73 u74 u75 u76 u77 u78 u79 u80 u81 u82 u83 u84 u85 u86 u87 u88 u89 u90 u91 u92 u93 u94 u95 u96 u97 u98 u99 u100 u101 u102 u103 u104 u105 u106 u107 u108 u109 u110 u111 u112 u113 u114 u115 u116 u117 u118 u119 u120 u121 u122 u123 u124 u125 u126 u127 u128 u129 u130 u131 u132 u133 u134 u135 u136 u137 u138 u139 u140 u141 u142 u143 u144 u145 u146 u147 u148 u149 u150 u151 u156 u157 u165 u166 u167 u168 u169 u170 u171 u172 u173 u174 u175 u176 u177 u178 u179 u180 u181 u182 u183 u184 u185 u186 u187 u188 u189 u190 u191 u192 : Value} (hQ : ∀ (z167 z168 z169 z170 z171 z172 z173 z174 z175 z176 z177 z178 z179 z180 z181 z182 z183 z184 z185 z186 z187 z188 z189 z190 z191 : Value) (w5 : World), But [] wr w5 → Q .normal { tmps := List.toArray (Value.slice (some { block := lg, off := lo }) vals.length lc :: u1 :: u2 :: u3 :: u4 :: Value.slice (some { block := gb, off := 0 }) vals.length vals.length :: u6 :: u7 :: u8 :: u9 :: u10 :: u11 :: u12 :: u13 :: Value.int IntKind.i64 ↑k :: Value.int IntKind.i64 ↑j :: u16 :: u17 :: u18 :: u19 :: u20 :: u21 :: u22 :: u23 :: u24 :: u25 :: u26 :: u27 :: u28 :: u29 :: u30 :: u31 :: u32 :: u33 :: u34 :: u35 :: u36 :: u37 :: u38 :: u39 :: u40 :: u41 :: u42 :: u43 :: u44 :: u45 :: u46 :: u47 :: u48 :: u49 :: u50 :: u51 :: u52 :: u53 :: u54 :: u55 :: u56 :: u57 :: u58 :: u59 :: u60 :: u61 :: u62 :: u63 :: u64 :: u65 :: u66 :: u67 :: u68 :: u69 :: u70 :: u71 :: u72 :: u73 :: u74 :: u75 :: u76 :: u77 :: u78 :: u79 :: u80 :: u81 :: u82 :: u83 :: u84 :: u85 :: u86 :: u87 :: u88 :: u89 :: u90 :: u91 :: u92 :: u93 :: u94 :: u95 :: u96 :: u97 :: u98 :: u99 :: u100 :: u101 :: u102 :: u103 :: u104 :: u105 :: u106 :: u107 :: u108 :: u109 :: u110 :: u111 :: u112 :: u113 :: u114 :: u115 :: u116 :: u117 :: u118 :: u119 :: u120 :: u121 :: u122 :: u123 :: u124 :: u125 :: u126 :: u127 :: u128 :: u129 :: u130 :: u131 :: u132 :: u133 :: u134 :: u135 :: u136 :: u137 :: u138 :: u139 :: u140 :: u141 :: u142 :: u143 :: u144 :: u145 :: u146 :: u147 :: u148 :: u149 :: u150 :: u151 :: Value.int IntKind.i64 ↑k :: Value.slice (some { block := lg, off := lo }) vals.length lc :: Value.int IntKind.i64 ↑vals.length :: Value.bool true :: u156 :: u157 :: Value.int IntKind.i64 ↑j :: Value.slice (some { block := lg, off := lo }) vals.length lc :: Value.int IntKind.i64 ↑k :: Value.pointer (some { block := lg, off := lo + k }) :: Value.slice (some { block := g, off := 0 }) (n k) c :: Value.int IntKind.i64 ↑(n k) :: Value.bool true :: u165 :: u166 :: z167 :: z168 :: z169 :: z170 :: z171 :: z172 :: z173 :: z174 :: z175 :: z176 :: z177 :: z178 :: z179 :: z180 :: z181 :: z182 :: z183 :: z184 :: z185 :: z186 :: z187 :: z188 :: z189 :: z190 :: z191 :: .bool false :: []), defers := [] } (w5)) :
    Code.wp Tryz.prog code_r41 Q { tmps := List.toArray (Value.slice (some { block := lg, off := lo }) vals.length lc :: u1 :: u2 :: u3 :: u4 :: Value.slice (some { block := gb, off := 0 }) vals.length vals.length :: u6 :: u7 :: u8 :: u9 :: u10 :: u11 :: u12 :: u13 :: Value.int IntKind.i64 ↑k :: Value.int IntKind.i64 ↑j :: u16 :: u17 :: u18 :: u19 :: u20 :: u21 :: u22 :: u23 :: u24 :: u25 :: u26 :: u27 :: u28 :: u29 :: u30 :: u31 :: u32 :: u33 :: u34 :: u35 :: u36 :: u37 :: u38 :: u39 :: u40 :: u41 :: u42 :: u43 :: u44 :: u45 :: u46 :: u47 :: u48 :: u49 :: u50 :: u51 :: u52 :: u53 :: u54 :: u55 :: u56 :: u57 :: u58 :: u59 :: u60 :: u61 :: u62 :: u63 :: u64 :: u65 :: u66 :: u67 :: u68 :: u69 :: u70 :: u71 :: u72 :: u73 :: u74 :: u75 :: u76 :: u77 :: u78 :: u79 :: u80 :: u81 :: u82 :: u83 :: u84 :: u85 :: u86 :: u87 :: u88 :: u89 :: u90 :: u91 :: u92 :: u93 :: u94 :: u95 :: u96 :: u97 :: u98 :: u99 :: u100 :: u101 :: u102 :: u103 :: u104 :: u105 :: u106 :: u107 :: u108 :: u109 :: u110 :: u111 :: u112 :: u113 :: u114 :: u115 :: u116 :: u117 :: u118 :: u119 :: u120 :: u121 :: u122 :: u123 :: u124 :: u125 :: u126 :: u127 :: u128 :: u129 :: u130 :: u131 :: u132 :: u133 :: u134 :: u135 :: u136 :: u137 :: u138 :: u139 :: u140 :: u141 :: u142 :: u143 :: u144 :: u145 :: u146 :: u147 :: u148 :: u149 :: u150 :: u151 :: Value.int IntKind.i64 ↑k :: Value.slice (some { block := lg, off := lo }) vals.length lc :: Value.int IntKind.i64 ↑vals.length :: Value.bool true :: u156 :: u157 :: Value.int IntKind.i64 ↑j :: Value.slice (some { block := lg, off := lo }) vals.length lc :: Value.int IntKind.i64 ↑k :: Value.pointer (some { block := lg, off := lo + k }) :: Value.slice (some { block := g, off := 0 }) (n k) c :: Value.int IntKind.i64 ↑(n k) :: Value.bool true :: u165 :: u166 :: u167 :: u168 :: u169 :: u170 :: u171 :: u172 :: u173 :: u174 :: u175 :: u176 :: u177 :: u178 :: u179 :: u180 :: u181 :: u182 :: u183 :: u184 :: u185 :: u186 :: u187 :: u188 :: u189 :: u190 :: u191 :: u192 :: []), defers := [] } wr := by
  have HQ := Lib.hid hQ
  clear hQ
  obtain ⟨z, hz⟩ : ∃ z : Int, z = wI k j := ⟨_, rfl⟩
  have HZ := Lib.hid hz
  clear hz
  conv => arg 2; whnf
  refine wp_region_flowS 25 (by decide) (by kernel_rfl) (But []) (fun _ _ _ h1 h2 => h1.trans h2 (by simp)) (⟨rfl, rfl, rfl, Nat.le_refl _, fun _ _ _ => rfl⟩) (GV [.slice (some ⟨lg, lo, none⟩) vals.length lc, .int .i64 (k : Int), .pointer (some ⟨lg, lo + k, none⟩), .slice (some ⟨g, 0, none⟩) (n k) c, .int .i64 (j : Int), .pointer (some ⟨g, j * 5, none⟩), .agg #[.int .u8 0, .int .u8 0, .int .u8 0, .int .i16 0, .int .i32 z], .int .i64 (k : Int), .int .i64 (j : Int), .agg #[.int .u8 0, .int .u8 0, .int .u8 0, .int .i16 0, .int .i32 z], .bool true, .bool false, .bool false, .slice (some ⟨gb, 0, none⟩) vals.length vals.length, .int .i64 (k : Int), .pointer (some ⟨gb, k, none⟩), .slice (some ⟨gg, 0, none⟩) (n k + 64) cg, .int .i64 (j : Int), .pointer (some ⟨gg, j * 5, none⟩), .agg #[.int .u8 0, .int .u8 0, .int .u8 0, .int .i16 0, .int .i32 z], .int .i64 (k : Int), .int .i64 (j : Int), .agg #[.int .u8 0, .int .u8 0, .int .u8 0, .int .i16 0, .int .i32 z], .bool true, .bool false]) [[], [], [(0, 167), (1, 168)], [(2, 169)], [], [(3, 170), (4, 171)], [(5, 172)], [], [], [(7, 174), (8, 175)], [(6, 173), (9, 176)], [(10, 177)], [(11, 178)], [(12, 179)], [(12, 179)], [(12, 179), (13, 180), (14, 181)], [(12, 179), (15, 182)], [(12, 179)], [(12, 179), (16, 183), (17, 184)], [(12, 179), (18, 185)], [(12, 179)], [(12, 179)], [(12, 179), (20, 187), (21, 188)], [(12, 179), (19, 186), (22, 189)], [(12, 179), (23, 190)]] [[(0, .slice (some ⟨lg, lo, none⟩) vals.length lc)], [(14, .int .i64 (k : Int))], [], [], [(15, .int .i64 (j : Int))], [], [], [(14, .int .i64 (k : Int))], [(15, .int .i64 (j : Int))], [], [], [], [], [(5, .slice (some ⟨gb, 0, none⟩) vals.length vals.length)], [(14, .int .i64 (k : Int))], [], [], [(15, .int .i64 (j : Int))], [], [], [(14, .int .i64 (k : Int))], [(15, .int .i64 (j : Int))], [], [], []] (by kernel_rfl) (by kernel_rfl) (by kernel_rfl) (by kernel_rfl) ?_ (fun _ _ _ _ _ h _ => h) [none, none, none, none, none, none, none, none, none, none, none, none, none, none, none, none, none, none, none, none, none, none, none, none, none, none, none, none, none, none, none, none, none, none, none, none, none, none, none, none, none, none, none, none, none, none, none, none, none, none, none, none, none, none, none, none, none, none, none, none, none, none, none, none, none, none, none, none, none, none, none, none, none, none, none, none, none, none, none, none, none, none, none, none, none, none, none, none, none, none, none, none, none, none, none, none, none, none, none, none, none, none, none, none, none, none, none, none, none, none, none, none, none, none, none, none, none, none, none, none, none, none, none, none, none, none, none, none, none, none, none, none, none, none, none, none, none, none, none, none, none, none, none, none, none, none, none, none, none, none, none, none, none, none, none, none, none, none, none, none, none, none, none, none, none, none, none, some 167, some 168, some 169, some 170, some 171, some 172, some 173, some 174, some 175, some 176, some 177, some 178, some 179, some 180, some 181, some 182, some 183, some 184, some 185, some 186, some 187, some 188, some 189, some 190, some 191, none] (by kernel_rfl) (by rfl) ?_ ?_
  · exact ⟨⟨rfl, trivial⟩, ⟨rfl, trivial⟩, trivial, trivial, ⟨rfl, trivial⟩, trivial, trivial, ⟨rfl, trivial⟩, ⟨rfl, trivial⟩, trivial, trivial, trivial, trivial, ⟨rfl, trivial⟩, ⟨rfl, trivial⟩, trivial, trivial, ⟨rfl, trivial⟩, trivial, trivial, ⟨rfl, trivial⟩, ⟨rfl, trivial⟩, trivial, trivial, trivial, trivial⟩
  · simp only [List.take_succ_cons, List.take_zero]
    -- 167
    refine ⟨fun a9 w9 hR hk hf => ?_, ?_⟩
    · simp only [KnowF, FreeF, and_true] at hk hf
      have e0 : a9.tmps[0]?.getD undef = .slice (some ⟨lg, lo, none⟩) vals.length lc := freeF_ev hf
      exact flow_on (rfl) (flow_run (v := .slice (some ⟨lg, lo, none⟩) vals.length lc) (by go_simp) (But.refl _ _) (GV.of rfl))
    -- 168
    refine ⟨fun a9 w9 hR hk hf => ?_, ?_⟩
    · simp only [KnowF, FreeF, and_true] at hk hf
      have e14 : a9.tmps[14]?.getD undef = .int .i64 (k : Int) := freeF_ev hf
      exact flow_on (rfl) (flow_run (v := .int .i64 (k : Int)) (by go_simp) (But.refl _ _) (GV.of rfl))
    -- 169
    refine ⟨fun a9 w9 hR hk hf => ?_, ?_⟩
    · simp only [KnowF, FreeF, and_true] at hk hf
      have e167 := (hk.1).ev (v := .slice (some ⟨lg, lo, none⟩) vals.length lc) rfl
      have e168 := (hk.2).ev (v := .int .i64 (k : Int)) rfl
      exact flow_on (rfl) (flow_run (v := .pointer (some ⟨lg, lo + k, none⟩)) (by go_simp) (But.refl _ _) (GV.of rfl))
    -- 170
    refine ⟨fun a9 w9 hR hk hf => ?_, ?_⟩
    · simp only [KnowF, FreeF, and_true] at hk hf
      have e169 := (hk).ev (v := .pointer (some ⟨lg, lo + k, none⟩)) rfl
      have f0 := cell_but hR L3.out (by simp)
      exact flow_on (rfl) (flow_run (v := .slice (some ⟨g, 0, none⟩) (n k) c) (by go_simp) (But.refl _ _) (GV.of rfl))
    -- 171
    refine ⟨fun a9 w9 hR hk hf => ?_, ?_⟩
    · simp only [KnowF, FreeF, and_true] at hk hf
      have e15 : a9.tmps[15]?.getD undef = .int .i64 (j : Int) := freeF_ev hf
      exact flow_on (rfl) (flow_run (v := .int .i64 (j : Int)) (by go_simp) (But.refl _ _) (GV.of rfl))
    -- 172
    refine ⟨fun a9 w9 hR hk hf => ?_, ?_⟩
    · simp only [KnowF, FreeF, and_true] at hk hf
      have e170 := (hk.1).ev (v := .slice (some ⟨g, 0, none⟩) (n k) c) rfl
      have e171 := (hk.2).ev (v := .int .i64 (j : Int)) rfl
      exact flow_on (rfl) (flow_run (v := .pointer (some ⟨g, j * 5, none⟩)) (by go_simp) (But.refl _ _) (GV.of rfl))
    -- 173
    refine ⟨fun a9 w9 hR hk hf => ?_, ?_⟩
    · simp only [KnowF, FreeF, and_true] at hk hf
      have e172 := (hk).ev (v := .pointer (some ⟨g, j * 5, none⟩)) rfl
      have hh := R1.out.but hR
      have f0 := hh.1
      have f1 := hh.2.1
      have f2 := hh.2.2.1
      have f3 := hh.2.2.2.1
      have f4 := hh.2.2.2.2
      simp only [mI] at f0 f1 f2 f3 f4
      rw [← HZ.out] at f4
      clear hh
      exact flow_on (rfl) (flow_run (v := .agg #[.int .u8 0, .int .u8 0, .int .u8 0, .int .i16 0, .int .i32 z]) (by go_simp) (But.refl _ _) (GV.of rfl))
    -- 174
    refine ⟨fun a9 w9 hR hk hf => ?_, ?_⟩
    · simp only [KnowF, FreeF, and_true] at hk hf
      have e14 : a9.tmps[14]?.getD undef = .int .i64 (k : Int) := freeF_ev hf
      exact flow_on (rfl) (flow_run (v := .int .i64 (k : Int)) (by go_simp) (But.refl _ _) (GV.of rfl))
    -- 175
    refine ⟨fun a9 w9 hR hk hf => ?_, ?_⟩
    · simp only [KnowF, FreeF, and_true] at hk hf
      have e15 : a9.tmps[15]?.getD undef = .int .i64 (j : Int) := freeF_ev hf
      exact flow_on (rfl) (flow_run (v := .int .i64 (j : Int)) (by go_simp) (But.refl _ _) (GV.of rfl))
    -- 176
    refine ⟨fun a9 w9 hR hk hf => ?_, ?_⟩
    · simp only [KnowF, FreeF, and_true] at hk hf
      have e174 := (hk.1).ev (v := .int .i64 (k : Int)) rfl
      have e175 := (hk.2).ev (v := .int .i64 (j : Int)) rfl
      exact flow_on (rfl) (flow_call (f := 31) (args := #[.int .i64 (k : Int), .int .i64 (j : Int)]) (by go_simp) ((markInstr _ _ _).mono (by rintro e w' ⟨rfl, hb⟩; exact ⟨_, rfl, hb, GV.of (by rw [← HZ.out]; rfl)⟩)))
    -- 177
    refine ⟨fun a9 w9 hR hk hf => ?_, ?_⟩
    · simp only [KnowF, FreeF, and_true] at hk hf
      have e173 := (hk.1).ev (v := .agg #[.int .u8 0, .int .u8 0, .int .u8 0, .int .i16 0, .int .i32 z]) rfl
      have e176 := (hk.2).ev (v := .agg #[.int .u8 0, .int .u8 0, .int .u8 0, .int .i16 0, .int .i32 z]) rfl
      exact flow_on (rfl) (flow_run (v := .bool true) (by go_simp) (But.refl _ _) (GV.of rfl))
    -- 178
    refine ⟨fun a9 w9 hR hk hf => ?_, ?_⟩
    · simp only [KnowF, FreeF, and_true] at hk hf
      have e177 := (hk).ev (v := .bool true) rfl
      exact flow_on (rfl) (flow_run (v := .bool false) (by go_simp) (But.refl _ _) (GV.of rfl))
    -- 179
    refine ⟨fun a9 w9 hR hk hf => ?_, ?_⟩
    · simp only [KnowF, FreeF, and_true] at hk hf
      have e178 := (hk).ev (v := .bool false) rfl
      exact flow_on (rfl) (flow_run (v := .bool false) (by go_simp) (But.refl _ _) (GV.of rfl))
    -- 180
    refine ⟨fun a9 w9 hR hk hf => ?_, ?_⟩
    · simp only [KnowF, FreeF, and_true] at hk hf
      have hgd := (hk).eval (v := .bool false) rfl
      have e5 : a9.tmps[5]?.getD undef = .slice (some ⟨gb, 0, none⟩) vals.length vals.length := freeF_ev hf
      exact flow_on (wanted_at (j := 12) (b := false) (s := 179) rfl rfl hgd) (flow_run (v := .slice (some ⟨gb, 0, none⟩) vals.length vals.length) (by go_simp) (But.refl _ _) (GV.of rfl))
    -- 181
    refine ⟨fun a9 w9 hR hk hf => ?_, ?_⟩
    · simp only [KnowF, FreeF, and_true] at hk hf
      have hgd := (hk).eval (v := .bool false) rfl
      have e14 : a9.tmps[14]?.getD undef = .int .i64 (k : Int) := freeF_ev hf
      exact flow_on (wanted_at (j := 12) (b := false) (s := 179) rfl rfl hgd) (flow_run (v := .int .i64 (k : Int)) (by go_simp) (But.refl _ _) (GV.of rfl))
    -- 182
    refine ⟨fun a9 w9 hR hk hf => ?_, ?_⟩
    · simp only [KnowF, FreeF, and_true] at hk hf
      have hgd := (hk.1).eval (v := .bool false) rfl
      have e180 := (hk.2.1).ev (v := .slice (some ⟨gb, 0, none⟩) vals.length vals.length) rfl
      have e181 := (hk.2.2).ev (v := .int .i64 (k : Int)) rfl
      exact flow_on (wanted_at (j := 12) (b := false) (s := 179) rfl rfl hgd) (flow_run (v := .pointer (some ⟨gb, k, none⟩)) (by go_simp) (But.refl _ _) (GV.of rfl))
    -- 183
    refine ⟨fun a9 w9 hR hk hf => ?_, ?_⟩
    · simp only [KnowF, FreeF, and_true] at hk hf
      have hgd := (hk.1).eval (v := .bool false) rfl
      have e182 := (hk.2).ev (v := .pointer (some ⟨gb, k, none⟩)) rfl
      have f0 := cell_but hR G3'.out (by simp)
      exact flow_on (wanted_at (j := 12) (b := false) (s := 179) rfl rfl hgd) (flow_run (v := .slice (some ⟨gg, 0, none⟩) (n k + 64) cg) (by go_simp) (But.refl _ _) (GV.of rfl))
    -- 184
    refine ⟨fun a9 w9 hR hk hf => ?_, ?_⟩
    · simp only [KnowF, FreeF, and_true] at hk hf
      have hgd := (hk).eval (v := .bool false) rfl
      have e15 : a9.tmps[15]?.getD undef = .int .i64 (j : Int) := freeF_ev hf
      exact flow_on (wanted_at (j := 12) (b := false) (s := 179) rfl rfl hgd) (flow_run (v := .int .i64 (j : Int)) (by go_simp) (But.refl _ _) (GV.of rfl))
    -- 185
    refine ⟨fun a9 w9 hR hk hf => ?_, ?_⟩
    · simp only [KnowF, FreeF, and_true] at hk hf
      have hgd := (hk.1).eval (v := .bool false) rfl
      have e183 := (hk.2.1).ev (v := .slice (some ⟨gg, 0, none⟩) (n k + 64) cg) rfl
      have e184 := (hk.2.2).ev (v := .int .i64 (j : Int)) rfl
      exact flow_on (wanted_at (j := 12) (b := false) (s := 179) rfl rfl hgd) (flow_run (v := .pointer (some ⟨gg, j * 5, none⟩)) (by go_simp) (But.refl _ _) (GV.of rfl))
    -- 186
    refine ⟨fun a9 w9 hR hk hf => ?_, ?_⟩
    · simp only [KnowF, FreeF, and_true] at hk hf
      have hgd := (hk.1).eval (v := .bool false) rfl
      have e185 := (hk.2).ev (v := .pointer (some ⟨gg, j * 5, none⟩)) rfl
      have hh := R2.out.but hR
      have f0 := hh.1
      have f1 := hh.2.1
      have f2 := hh.2.2.1
      have f3 := hh.2.2.2.1
      have f4 := hh.2.2.2.2
      simp only [mI] at f0 f1 f2 f3 f4
      rw [← HZ.out] at f4
      clear hh
      exact flow_on (wanted_at (j := 12) (b := false) (s := 179) rfl rfl hgd) (flow_run (v := .agg #[.int .u8 0, .int .u8 0, .int .u8 0, .int .i16 0, .int .i32 z]) (by go_simp) (But.refl _ _) (GV.of rfl))
    -- 187
    refine ⟨fun a9 w9 hR hk hf => ?_, ?_⟩
    · simp only [KnowF, FreeF, and_true] at hk hf
      have hgd := (hk).eval (v := .bool false) rfl
      have e14 : a9.tmps[14]?.getD undef = .int .i64 (k : Int) := freeF_ev hf
      exact flow_on (wanted_at (j := 12) (b := false) (s := 179) rfl rfl hgd) (flow_run (v := .int .i64 (k : Int)) (by go_simp) (But.refl _ _) (GV.of rfl))
    -- 188
    refine ⟨fun a9 w9 hR hk hf => ?_, ?_⟩
    · simp only [KnowF, FreeF, and_true] at hk hf
      have hgd := (hk).eval (v := .bool false) rfl
      have e15 : a9.tmps[15]?.getD undef = .int .i64 (j : Int) := freeF_ev hf
      exact flow_on (wanted_at (j := 12) (b := false) (s := 179) rfl rfl hgd) (flow_run (v := .int .i64 (j : Int)) (by go_simp) (But.refl _ _) (GV.of rfl))
    -- 189
    refine ⟨fun a9 w9 hR hk hf => ?_, ?_⟩
    · simp only [KnowF, FreeF, and_true] at hk hf
      have hgd := (hk.1).eval (v := .bool false) rfl
      have e187 := (hk.2.1).ev (v := .int .i64 (k : Int)) rfl
      have e188 := (hk.2.2).ev (v := .int .i64 (j : Int)) rfl
      exact flow_on (wanted_at (j := 12) (b := false) (s := 179) rfl rfl hgd) (flow_call (f := 31) (args := #[.int .i64 (k : Int), .int .i64 (j : Int)]) (by go_simp) ((markInstr _ _ _).mono (by rintro e w' ⟨rfl, hb⟩; exact ⟨_, rfl, hb, GV.of (by rw [← HZ.out]; rfl)⟩)))
    -- 190
    refine ⟨fun a9 w9 hR hk hf => ?_, ?_⟩
    · simp only [KnowF, FreeF, and_true] at hk hf
      have hgd := (hk.1).eval (v := .bool false) rfl
      have e186 := (hk.2.1).ev (v := .agg #[.int .u8 0, .int .u8 0, .int .u8 0, .int .i16 0, .int .i32 z]) rfl
      have e189 := (hk.2.2).ev (v := .agg #[.int .u8 0, .int .u8 0, .int .u8 0, .int .i16 0, .int .i32 z]) rfl
      exact flow_on (wanted_at (j := 12) (b := false) (s := 179) rfl rfl hgd) (flow_run (v := .bool true) (by go_simp) (But.refl _ _) (GV.of rfl))
    -- 191
    refine ⟨fun a9 w9 hR hk hf => ?_, ?_⟩
    · simp only [KnowF, FreeF, and_true] at hk hf
      have hgd := (hk.1).eval (v := .bool false) rfl
      have e190 := (hk.2).ev (v := .bool true) rfl
      exact flow_on (wanted_at (j := 12) (b := false) (s := 179) rfl rfl hgd) (flow_run (v := .bool false) (by go_simp) (But.refl _ _) (GV.of rfl))
    exact trivial
  · intro f w5 hb5 hG
    have e179 : f 179 = .bool false := hG 12 _ 179 (by decide) rfl rfl _ rfl
    have e191 : f 191 = .bool false := hG 24 _ 191 (by decide) rfl rfl _ rfl
    have HB5 := Lib.hid hb5
    clear hG hb5
    simp only [List.drop_succ_cons, List.drop_zero]
    show wpList _ _ _ _ { tmps := List.toArray (Value.slice (some { block := lg, off := lo }) vals.length lc :: u1 :: u2 :: u3 :: u4 :: Value.slice (some { block := gb, off := 0 }) vals.length vals.length :: u6 :: u7 :: u8 :: u9 :: u10 :: u11 :: u12 :: u13 :: Value.int IntKind.i64 ↑k :: Value.int IntKind.i64 ↑j :: u16 :: u17 :: u18 :: u19 :: u20 :: u21 :: u22 :: u23 :: u24 :: u25 :: u26 :: u27 :: u28 :: u29 :: u30 :: u31 :: u32 :: u33 :: u34 :: u35 :: u36 :: u37 :: u38 :: u39 :: u40 :: u41 :: u42 :: u43 :: u44 :: u45 :: u46 :: u47 :: u48 :: u49 :: u50 :: u51 :: u52 :: u53 :: u54 :: u55 :: u56 :: u57 :: u58 :: u59 :: u60 :: u61 :: u62 :: u63 :: u64 :: u65 :: u66 :: u67 :: u68 :: u69 :: u70 :: u71 :: u72 :: u73 :: u74 :: u75 :: u76 :: u77 :: u78 :: u79 :: u80 :: u81 :: u82 :: u83 :: u84 :: u85 :: u86 :: u87 :: u88 :: u89 :: u90 :: u91 :: u92 :: u93 :: u94 :: u95 :: u96 :: u97 :: u98 :: u99 :: u100 :: u101 :: u102 :: u103 :: u104 :: u105 :: u106 :: u107 :: u108 :: u109 :: u110 :: u111 :: u112 :: u113 :: u114 :: u115 :: u116 :: u117 :: u118 :: u119 :: u120 :: u121 :: u122 :: u123 :: u124 :: u125 :: u126 :: u127 :: u128 :: u129 :: u130 :: u131 :: u132 :: u133 :: u134 :: u135 :: u136 :: u137 :: u138 :: u139 :: u140 :: u141 :: u142 :: u143 :: u144 :: u145 :: u146 :: u147 :: u148 :: u149 :: u150 :: u151 :: Value.int IntKind.i64 ↑k :: Value.slice (some { block := lg, off := lo }) vals.length lc :: Value.int IntKind.i64 ↑vals.length :: Value.bool true :: u156 :: u157 :: Value.int IntKind.i64 ↑j :: Value.slice (some { block := lg, off := lo }) vals.length lc :: Value.int IntKind.i64 ↑k :: Value.pointer (some { block := lg, off := lo + k }) :: Value.slice (some { block := g, off := 0 }) (n k) c :: Value.int IntKind.i64 ↑(n k) :: Value.bool true :: u165 :: u166 :: f 167 :: f 168 :: f 169 :: f 170 :: f 171 :: f 172 :: f 173 :: f 174 :: f 175 :: f 176 :: f 177 :: f 178 :: f 179 :: f 180 :: f 181 :: f 182 :: f 183 :: f 184 :: f 185 :: f 186 :: f 187 :: f 188 :: f 189 :: f 190 :: f 191 :: u192 :: []), defers := [] } w5
    go_wp2_with fail
    exact HQ.out _ _ _ _ _ _ _ _ _ _ _ _ _ _ _ _ _ _ _ _ _ _ _ _ _ _ HB5.out
noncomputable def code_gl6 : Code := dropSeqI 6 (Tryz.f54.body.getD .skip)
set_option maxRecDepth 100000 in
set_option maxHeartbeats 4000000 in
theorem gl6 {w : World} {vals : List Value} {n : Nat → Nat} {lg lo lc : Nat} {gb : Nat} {w1 : World} {u1 u2 u3 u4 u6 u7 u8 u9 u10 u11 u12 u13 u14 u15 u16 u17 u18 u19 u20 u21 u22 u23 u24 u25 u26 u27 u28 u29 u30 u31 u32 u33 u34 u35 u36 u37 u38 u39 u40 u41 u42 u43 u44 u45 u46 u47 u48 u49 u50 u51 u52 u53 u54 u55 u56 u57 u58 u59 u60 u61 u62 u63 u64 u65 u66 u67 u68 u69 u70 u71 u72 u73 u74 u75 u76 u77 u78 u79 u80 u81 u82 u83 u84 u85 u86 u87 u88 u89 u90 u91 u92 u93 u94 u95 u96 u97 u98 u99 u100 u101 u102 u103 u104 u105 u106 u107 u108 u109 u110 u111 u112 u113 u114 u115 u116 u117 u118 u119 u120 u121 u122 u123 u124 u125 u126 u127 u128 u129 u130 u131 u132 u133 u134 u135 u136 u137 u138 u139 u140 u141 u142 u143 u144 u145 u146 u147 u148 u149 u150 u151 u152 u153 u154 u155 u156 u157 u158 u159 u160 u161 u162 u163 u164 u165 u166 u167 u168 u169 u170 u171 u172 u173 u174 u175 u176 u177 u178 u179 u180 u181 u182 u183 u184 u185 u186 u187 u188 u189 u190 u191 u192 : Value} (HA : Hid (ApartV vals)) (HN : Hid (∀ (k : Nat) (v : Value), vals[k]? = some v → (∃ a c, v = .slice a (n k) c) ∧ n k ≤ 1000000000000)) (hK : vals.length ≤ 1000000) (HLOW : Hid (∀ (k : Nat) (v : Value) (b : Nat), vals[k]? = some v → v.ownBlock = some b → b < w.heap.size)) (hlg : lg < w.heap.size) (HF : Hid (FI w w1 vals n (.slice (some ⟨lg, lo, none⟩) vals.length lc))) (HG : Hid (Grown5I w w1 vals n (.slice (some ⟨gb, 0, none⟩) vals.length vals.length) vals.length)) :
    Code.wp Tryz.prog code_gl6 (bodyPost Tryz.prog Tryz.f54 fun e w' => e = .returned (.bool true) ∧ But (blks vals) w w') { tmps := List.toArray (.slice (some ⟨lg, lo, none⟩) vals.length lc :: u1 :: u2 :: u3 :: u4 :: .slice (some ⟨gb, 0, none⟩) vals.length vals.length :: u6 :: u7 :: u8 :: u9 :: u10 :: u11 :: u12 :: u13 :: u14 :: u15 :: u16 :: u17 :: u18 :: u19 :: u20 :: u21 :: u22 :: u23 :: u24 :: u25 :: u26 :: u27 :: u28 :: u29 :: u30 :: u31 :: u32 :: u33 :: u34 :: u35 :: u36 :: u37 :: u38 :: u39 :: u40 :: u41 :: u42 :: u43 :: u44 :: u45 :: u46 :: u47 :: u48 :: u49 :: u50 :: u51 :: u52 :: u53 :: u54 :: u55 :: u56 :: u57 :: u58 :: u59 :: u60 :: u61 :: u62 :: u63 :: u64 :: u65 :: u66 :: u67 :: u68 :: u69 :: u70 :: u71 :: u72 :: u73 :: u74 :: u75 :: u76 :: u77 :: u78 :: u79 :: u80 :: u81 :: u82 :: u83 :: u84 :: u85 :: u86 :: u87 :: u88 :: u89 :: u90 :: u91 :: u92 :: u93 :: u94 :: u95 :: u96 :: u97 :: u98 :: u99 :: u100 :: u101 :: u102 :: u103 :: u104 :: u105 :: u106 :: u107 :: u108 :: u109 :: u110 :: u111 :: u112 :: u113 :: u114 :: u115 :: u116 :: u117 :: u118 :: u119 :: u120 :: u121 :: u122 :: u123 :: u124 :: u125 :: u126 :: u127 :: u128 :: u129 :: u130 :: u131 :: u132 :: u133 :: u134 :: u135 :: u136 :: u137 :: u138 :: u139 :: u140 :: u141 :: u142 :: u143 :: u144 :: u145 :: u146 :: u147 :: u148 :: u149 :: u150 :: u151 :: u152 :: u153 :: u154 :: u155 :: u156 :: u157 :: u158 :: u159 :: u160 :: u161 :: u162 :: u163 :: u164 :: u165 :: u166 :: u167 :: u168 :: u169 :: u170 :: u171 :: u172 :: u173 :: u174 :: u175 :: u176 :: u177 :: u178 :: u179 :: u180 :: u181 :: u182 :: u183 :: u184 :: u185 :: u186 :: u187 :: u188 :: u189 :: u190 :: u191 :: u192 :: []), defers := [] } w1 := by
  conv => arg 2; whnf
  go_wp2_with fail
  go_loopw [14] (fun i wr => ∃ k : Nat, k ≤ vals.length ∧ i = .int .i64 k ∧ But [] w1 wr) (fun i _ => vals.length - (intOf i).toNat)
  case atStart => exact ⟨0, Nat.zero_le _, rfl, But.refl _ _⟩
  case round =>
    obtain ⟨k, hk, rfl, hb⟩ := hrel
    have HB := Lib.hid hb
    clear hb
    by_cases hlt : k < vals.length
    · obtain ⟨a, c, hv, hnk⟩ := valsI_at HN hlt
      obtain ⟨gv, hgl, hgq, hgr⟩ := HG.out
      obtain ⟨G, hG⟩ : ∃ G, gv[k]? = some G := ⟨_, List.getElem?_eq_getElem (by omega)⟩
      obtain ⟨xs, hgo, hxl, hxt⟩ := hgr k G _ hlt hG hv
      obtain ⟨ag, cg, eg⟩ := hgo.1.form
      rw [hxl] at eg
      subst eg
      obtain ⟨gg, rfl⟩ := hgo.1.addr (by omega)
      have hk0 : (0 : Int) ≤ k := by omega
      have hk1 : (k : Int) < vals.length := by omega
      have lc1 : w1.cell? ⟨lg, lo + k, none⟩ = some (.slice a (n k) c) := HF.out.lsq.cellAt hv
      have gc1 : w1.cell? ⟨gb, k, none⟩ = some (.slice (some ⟨gg, 0, none⟩) (n k + 64) cg) := by have := hgq.cellAt hG; rwa [Nat.zero_add] at this
      obtain ⟨wo, hwo⟩ : ∃ wo : World, wo = wr := ⟨_, rfl⟩
      have lc2 : wr.cell? ⟨lg, lo + k, none⟩ = some (.slice a (n k) c) := cell_but HB.out lc1 (by simp)
      have HV := Lib.hid hv
      have HGO := Lib.hid hgo
      have HXT := Lib.hid hxt
      have HXL := Lib.hid hxl
      have HL1 := Lib.hid lc1
      have HG1 := Lib.hid gc1
      clear hv hgl hgq hgr hG hgo hxl hxt lc1 gc1 hwo
      go_wp2_with fail
      go_loopw [15] (fun i wx => ∃ j : Nat, j ≤ n k ∧ i = .int .i64 j ∧ But [] w1 wx) (fun i _ => n k - (intOf i).toNat)
      case atStart => exact ⟨0, Nat.zero_le _, rfl, HB.out⟩
      case round =>
        obtain ⟨j, hj, rfl, hbx⟩ := hrel
        have lc3 : wr.cell? ⟨lg, lo + k, none⟩ = some (.slice a (n k) c) := cell_but hbx HL1.out (by simp)
        have gc3 : wr.cell? ⟨gb, k, none⟩ = some (.slice (some ⟨gg, 0, none⟩) (n k + 64) cg) := cell_but hbx HG1.out (by simp)
        have HBX := Lib.hid hbx
        by_cases hjl : j < n k
        · obtain ⟨g, rfl⟩ := (HF.out.rows k _ HV.out).addr (by omega)
          have R1 := Lib.hid (((HF.out.rows k _ HV.out).at5 (marksI_at hjl)).but hbx)
          have R2 := Lib.hid ((HGO.out.1.at5 (by
            have h := marksI_at (k := k) hjl
            rw [← HXT.out, List.getElem?_take_of_lt hjl] at h
            exact h)).but hbx)
          have L3 := Lib.hid lc3
          have G3' := Lib.hid gc3
          have hj0 : (0 : Int) ≤ j := by omega
          have hj1 : (j : Int) < n k := by omega
          have hj2 : (j : Int) < (n k : Int) + 64 := by omega
          have hj3 : j < n k + 64 := by omega
          clear hbx
          go_wp2_with fail
          refine reg41 _ L3 G3' R1 R2 hk1 hj1 hj2 ?_
          intro z167 z168 z169 z170 z171 z172 z173 z174 z175 z176 z177 z178 z179 z180 z181 z182 z183 z184 z185 z186 z187 z188 z189 z190 z191 w5 hb5
          have HB5 := Lib.hid (HBX.out.trans hb5 (by simp))
          clear hb5
          go_wp2_with fail
          go_roundw
          case rel => exact ⟨j + 1, by omega, by go_num, HB5.out⟩
          case measure => simp [intOf]; omega
        · obtain rfl : j = n k := by omega
          go_wp2_with fail
          go_roundw
          case rel => exact ⟨k + 1, by omega, by go_num, HBX.out⟩
          case measure => simp [intOf]; omega
    · obtain rfl : k = vals.length := by omega
      go_wp2_with fail
      go_ret
      exact ⟨rfl, HF.out.but.trans HB.out (by simp)⟩
end Go.Proofs.YtddeckkcfcodbaaGreat.M
