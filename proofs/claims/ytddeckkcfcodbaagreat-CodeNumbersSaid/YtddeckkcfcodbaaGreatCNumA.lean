/-
  'CodeNumbers': the region of its first loop (printed by mkcnum.py).
-/
import Derived.Test.YtddeckkcfcodbaaGreatGets
namespace Go.Proofs.YtddeckkcfcodbaaGreat.M
open Go.RowKit Go.Shelf
set_option linter.unusedVariables false
set_option linter.unusedSectionVars false
set_option linter.unusedSimpArgs false
noncomputable def code_n13 : Code := ((Tryz.f3.body.getD .skip |> regionOf5 13).getD .skip)
set_option maxRecDepth 100000 in
set_option maxHeartbeats 8000000 in
theorem n13 (Q : Exit → Act → World → Prop) {wr : World} {rb ob mb i k n m : Nat} {r1 r2 fo im : Int} (hn : n < 6) (hi : i < 7) (hk : k < 7) (hm6 : m < 6) (HM : Hid (((n : Int) + i).tmod 6 = m)) (H1 : Hid (wr.cell? ⟨rb, n, none⟩ = some (.int .u8 r1))) (H2 : Hid (wr.cell? ⟨rb, m, none⟩ = some (.int .u8 r2))) (H3 : Hid (wr.cell? ⟨ob, i, none⟩ = some (.int .i16 fo))) (H4 : Hid (wr.cell? ⟨mb, k, none⟩ = some (.int .i32 im))) {u0 u7 u8 u9 u10 u11 u12 u13 u14 u15 u16 u17 u18 u19 u20 u21 u22 u23 u24 u25 u26 u27 u28 u29 u30 u31 u32 u33 u34 u35 u36 u37 u38 u39 u40 u41 u42 u43 u44 u45 u46 u47 u48 u49 u50 u51 u52 u53 u54 u55 u56 u57 u58 u59 u60 u61 u62 u63 u64 u65 u66 u67 u68 u69 u70 u71 u72 u73 u74 u75 u76 u77 u78 u79 u80 u81 u82 u83 u84 u85 u86 u87 u88 u89 u90 u91 u92 u93 u94 u95 u96 u97 u98 u99 u100 u101 u102 u103 u104 u105 u106 u107 u108 u109 u110 u111 u112 u113 u114 u115 u116 u117 u118 u119 u120 u121 u122 u123 u124 u125 u126 u127 u128 u129 u130 u131 u132 u133 u134 u135 u136 u137 u138 u139 u140 u141 u142 u143 u144 u145 u146 u147 u148 u149 u150 u151 u152 u153 u154 u155 u156 u157 u158 u159 u160 u161 u162 u163 u164 u165 u166 u167 u168 u169 u170 u171 u172 u173 u174 u175 u176 u177 u178 u179 u180 u181 u182 : Value} (hQ : ∀ (z42 z43 z44 z45 z46 z47 z48 z49 z50 z51 z52 z53 z54 z55 z56 z57 z58 z59 z60 z61 z62 z63 z64 : Value) (w5 : World), But [] wr w5 → Q .normal { tmps := List.toArray (u0 :: .slice (some ⟨rb, 0, none⟩) 6 6 :: .slice (some ⟨ob, 0, none⟩) 7 7 :: .slice (some ⟨mb, 0, none⟩) 7 7 :: .int .i64 (i : Int) :: .int .i64 (k : Int) :: .int .i64 (n : Int) :: .slice (some ⟨w5.heap.size, 0, none⟩) 1 1 :: u8 :: u9 :: u10 :: u11 :: u12 :: u13 :: u14 :: u15 :: u16 :: u17 :: u18 :: u19 :: u20 :: u21 :: u22 :: u23 :: u24 :: u25 :: u26 :: u27 :: u28 :: u29 :: u30 :: u31 :: u32 :: u33 :: u34 :: u35 :: u36 :: u37 :: u38 :: u39 :: u40 :: u41 :: z42 :: z43 :: z44 :: z45 :: z46 :: z47 :: z48 :: z49 :: z50 :: z51 :: z52 :: z53 :: z54 :: z55 :: z56 :: z57 :: z58 :: z59 :: z60 :: z61 :: z62 :: z63 :: z64 :: .slice (some ⟨w5.heap.size, 0, none⟩) 1 1 :: u66 :: u67 :: u68 :: u69 :: u70 :: u71 :: u72 :: u73 :: u74 :: u75 :: u76 :: u77 :: u78 :: u79 :: u80 :: u81 :: u82 :: u83 :: u84 :: u85 :: u86 :: u87 :: u88 :: u89 :: u90 :: u91 :: u92 :: u93 :: u94 :: u95 :: u96 :: u97 :: u98 :: u99 :: u100 :: u101 :: u102 :: u103 :: u104 :: u105 :: u106 :: u107 :: u108 :: u109 :: u110 :: u111 :: u112 :: u113 :: u114 :: u115 :: u116 :: u117 :: u118 :: u119 :: u120 :: u121 :: u122 :: u123 :: u124 :: u125 :: u126 :: u127 :: u128 :: u129 :: u130 :: u131 :: u132 :: u133 :: u134 :: u135 :: u136 :: u137 :: u138 :: u139 :: u140 :: u141 :: u142 :: u143 :: u144 :: u145 :: u146 :: u147 :: u148 :: u149 :: u150 :: u151 :: u152 :: u153 :: u154 :: u155 :: u156 :: u157 :: u158 :: u159 :: u160 :: u161 :: u162 :: u163 :: u164 :: u165 :: u166 :: u167 :: u168 :: u169 :: u170 :: u171 :: u172 :: u173 :: u174 :: u175 :: u176 :: u177 :: u178 :: u179 :: u180 :: u181 :: u182 :: []), defers := [] } (w5.alloc (.cells #[.int .u8 ((n : Int) * 51), .int .u8 r1, .int .u8 r2, .int .i16 fo, .int .i32 im] 27))) :
    Code.wp Tryz.prog code_n13 Q { tmps := List.toArray (u0 :: .slice (some ⟨rb, 0, none⟩) 6 6 :: .slice (some ⟨ob, 0, none⟩) 7 7 :: .slice (some ⟨mb, 0, none⟩) 7 7 :: .int .i64 (i : Int) :: .int .i64 (k : Int) :: .int .i64 (n : Int) :: u7 :: u8 :: u9 :: u10 :: u11 :: u12 :: u13 :: u14 :: u15 :: u16 :: u17 :: u18 :: u19 :: u20 :: u21 :: u22 :: u23 :: u24 :: u25 :: u26 :: u27 :: u28 :: u29 :: u30 :: u31 :: u32 :: u33 :: u34 :: u35 :: u36 :: u37 :: u38 :: u39 :: u40 :: u41 :: u42 :: u43 :: u44 :: u45 :: u46 :: u47 :: u48 :: u49 :: u50 :: u51 :: u52 :: u53 :: u54 :: u55 :: u56 :: u57 :: u58 :: u59 :: u60 :: u61 :: u62 :: u63 :: u64 :: u65 :: u66 :: u67 :: u68 :: u69 :: u70 :: u71 :: u72 :: u73 :: u74 :: u75 :: u76 :: u77 :: u78 :: u79 :: u80 :: u81 :: u82 :: u83 :: u84 :: u85 :: u86 :: u87 :: u88 :: u89 :: u90 :: u91 :: u92 :: u93 :: u94 :: u95 :: u96 :: u97 :: u98 :: u99 :: u100 :: u101 :: u102 :: u103 :: u104 :: u105 :: u106 :: u107 :: u108 :: u109 :: u110 :: u111 :: u112 :: u113 :: u114 :: u115 :: u116 :: u117 :: u118 :: u119 :: u120 :: u121 :: u122 :: u123 :: u124 :: u125 :: u126 :: u127 :: u128 :: u129 :: u130 :: u131 :: u132 :: u133 :: u134 :: u135 :: u136 :: u137 :: u138 :: u139 :: u140 :: u141 :: u142 :: u143 :: u144 :: u145 :: u146 :: u147 :: u148 :: u149 :: u150 :: u151 :: u152 :: u153 :: u154 :: u155 :: u156 :: u157 :: u158 :: u159 :: u160 :: u161 :: u162 :: u163 :: u164 :: u165 :: u166 :: u167 :: u168 :: u169 :: u170 :: u171 :: u172 :: u173 :: u174 :: u175 :: u176 :: u177 :: u178 :: u179 :: u180 :: u181 :: u182 :: []), defers := [] } wr := by
  have HQ := Lib.hid hQ
  clear hQ
  conv => arg 2; whnf
  refine wp_region_flowS 23 (by decide) (by kernel_rfl) (But []) (fun _ _ _ h1 h2 => h1.trans h2 (by simp)) (⟨rfl, rfl, rfl, Nat.le_refl _, fun _ _ _ => rfl⟩) (GV [.int .i64 (n : Int), .int .i64 ((n : Int) * 51), .int .u8 ((n : Int) * 51), .slice (some ⟨rb, 0, none⟩) 6 6, .int .i64 (n : Int), .pointer (some ⟨rb, n, none⟩), .int .u8 r1, .slice (some ⟨rb, 0, none⟩) 6 6, .int .i64 (n : Int), .int .i64 (i : Int), .int .i64 ((n : Int) + i), .int .i64 (m : Int), .pointer (some ⟨rb, m, none⟩), .int .u8 r2, .slice (some ⟨ob, 0, none⟩) 7 7, .int .i64 (i : Int), .pointer (some ⟨ob, i, none⟩), .int .i16 fo, .slice (some ⟨mb, 0, none⟩) 7 7, .int .i64 (k : Int), .pointer (some ⟨mb, k, none⟩), .int .i32 im, .agg #[.int .u8 ((n : Int) * 51), .int .u8 r1, .int .u8 r2, .int .i16 fo, .int .i32 im]]) [[], [(0, 42)], [(1, 43)], [], [], [(3, 45), (4, 46)], [(5, 47)], [], [], [], [(8, 50), (9, 51)], [(10, 52)], [(7, 49), (11, 53)], [(12, 54)], [], [], [(14, 56), (15, 57)], [(16, 58)], [], [], [(18, 60), (19, 61)], [(20, 62)], [(2, 44), (6, 48), (13, 55), (17, 59), (21, 63)]] [[(6, .int .i64 (n : Int))], [], [], [(1, .slice (some ⟨rb, 0, none⟩) 6 6)], [(6, .int .i64 (n : Int))], [], [], [(1, .slice (some ⟨rb, 0, none⟩) 6 6)], [(6, .int .i64 (n : Int))], [(4, .int .i64 (i : Int))], [], [], [], [], [(2, .slice (some ⟨ob, 0, none⟩) 7 7)], [(4, .int .i64 (i : Int))], [], [], [(3, .slice (some ⟨mb, 0, none⟩) 7 7)], [(5, .int .i64 (k : Int))], [], [], []] (by kernel_rfl) (by kernel_rfl) (by kernel_rfl) (by kernel_rfl) ?_ (fun _ _ _ _ _ h _ => h) [none, none, none, none, none, none, none, none, none, none, none, none, none, none, none, none, none, none, none, none, none, none, none, none, none, none, none, none, none, none, none, none, none, none, none, none, none, none, none, none, none, none, some 42, some 43, some 44, some 45, some 46, some 47, some 48, some 49, some 50, some 51, some 52, some 53, some 54, some 55, some 56, some 57, some 58, some 59, some 60, some 61, some 62, some 63, some 64, none, none, none, none, none, none, none, none, none, none, none, none, none, none, none, none, none, none, none, none, none, none, none, none, none, none, none, none, none, none, none, none, none, none, none, none, none, none, none, none, none, none, none, none, none, none, none, none, none, none, none, none, none, none, none, none, none, none, none, none, none, none, none, none, none, none, none, none, none, none, none, none, none, none, none, none, none, none, none, none, none, none, none, none, none, none, none, none, none, none, none, none, none, none, none, none, none, none, none, none, none, none, none, none, none, none, none, none, none, none, none, none, none, none, none, none, none, none] (by kernel_rfl) (by rfl) ?_ ?_
  · exact ⟨⟨rfl, trivial⟩, trivial, trivial, ⟨rfl, trivial⟩, ⟨rfl, trivial⟩, trivial, trivial, ⟨rfl, trivial⟩, ⟨rfl, trivial⟩, ⟨rfl, trivial⟩, trivial, trivial, trivial, trivial, ⟨rfl, trivial⟩, ⟨rfl, trivial⟩, trivial, trivial, ⟨rfl, trivial⟩, ⟨rfl, trivial⟩, trivial, trivial, trivial, trivial⟩
  · simp only [List.take_succ_cons, List.take_zero]
    -- 42
    refine ⟨fun a9 w9 hR hk hf => ?_, ?_⟩
    · simp only [KnowF, FreeF, and_true] at hk hf
      have e6 : a9.tmps[6]?.getD undef = .int .i64 (n : Int) := freeF_ev hf
      exact flow_on (rfl) (flow_run (v := .int .i64 (n : Int)) (by go_simp) (But.refl _ _) (GV.of rfl))
    -- 43
    refine ⟨fun a9 w9 hR hk hf => ?_, ?_⟩
    · simp only [KnowF, FreeF, and_true] at hk hf
      have e42 := (hk).ev (v := .int .i64 (n : Int)) rfl
      have hw : IntKind.i64.wrap ((n : Int) * 51) = (n : Int) * 51 := by rw [IntKind.wrap_i64]; omega
      exact flow_on (rfl) (flow_run (v := .int .i64 ((n : Int) * 51)) (by go_simp) (But.refl _ _) (GV.of rfl))
    -- 44
    refine ⟨fun a9 w9 hR hk hf => ?_, ?_⟩
    · simp only [KnowF, FreeF, and_true] at hk hf
      have e43 := (hk).ev (v := .int .i64 ((n : Int) * 51)) rfl
      have hw : IntKind.u8.wrap ((n : Int) * 51) = (n : Int) * 51 := by rw [IntKind.wrap_u8]; omega
      exact flow_on (rfl) (flow_run (v := .int .u8 ((n : Int) * 51)) (by go_simp) (But.refl _ _) (GV.of rfl))
    -- 45
    refine ⟨fun a9 w9 hR hk hf => ?_, ?_⟩
    · simp only [KnowF, FreeF, and_true] at hk hf
      have e1 : a9.tmps[1]?.getD undef = .slice (some ⟨rb, 0, none⟩) 6 6 := freeF_ev hf
      exact flow_on (rfl) (flow_run (v := .slice (some ⟨rb, 0, none⟩) 6 6) (by go_simp) (But.refl _ _) (GV.of rfl))
    -- 46
    refine ⟨fun a9 w9 hR hk hf => ?_, ?_⟩
    · simp only [KnowF, FreeF, and_true] at hk hf
      have e6 : a9.tmps[6]?.getD undef = .int .i64 (n : Int) := freeF_ev hf
      exact flow_on (rfl) (flow_run (v := .int .i64 (n : Int)) (by go_simp) (But.refl _ _) (GV.of rfl))
    -- 47
    refine ⟨fun a9 w9 hR hk hf => ?_, ?_⟩
    · simp only [KnowF, FreeF, and_true] at hk hf
      have e45 := (hk.1).ev (v := .slice (some ⟨rb, 0, none⟩) 6 6) rfl
      have e46 := (hk.2).ev (v := .int .i64 (n : Int)) rfl
      have g0 : (0 : Int) ≤ n := by omega
      have g1 : (n : Int) < 6 := by omega
      have g2 : n < 6 := by omega
      exact flow_on (rfl) (flow_run (v := .pointer (some ⟨rb, n, none⟩)) (by go_simp) (But.refl _ _) (GV.of rfl))
    -- 48
    refine ⟨fun a9 w9 hR hk hf => ?_, ?_⟩
    · simp only [KnowF, FreeF, and_true] at hk hf
      have e47 := (hk).ev (v := .pointer (some ⟨rb, n, none⟩)) rfl
      have f0 := cell_but hR H1.out (by simp)
      exact flow_on (rfl) (flow_run (v := .int .u8 r1) (by go_simp) (But.refl _ _) (GV.of rfl))
    -- 49
    refine ⟨fun a9 w9 hR hk hf => ?_, ?_⟩
    · simp only [KnowF, FreeF, and_true] at hk hf
      have e1 : a9.tmps[1]?.getD undef = .slice (some ⟨rb, 0, none⟩) 6 6 := freeF_ev hf
      exact flow_on (rfl) (flow_run (v := .slice (some ⟨rb, 0, none⟩) 6 6) (by go_simp) (But.refl _ _) (GV.of rfl))
    -- 50
    refine ⟨fun a9 w9 hR hk hf => ?_, ?_⟩
    · simp only [KnowF, FreeF, and_true] at hk hf
      have e6 : a9.tmps[6]?.getD undef = .int .i64 (n : Int) := freeF_ev hf
      exact flow_on (rfl) (flow_run (v := .int .i64 (n : Int)) (by go_simp) (But.refl _ _) (GV.of rfl))
    -- 51
    refine ⟨fun a9 w9 hR hk hf => ?_, ?_⟩
    · simp only [KnowF, FreeF, and_true] at hk hf
      have e4 : a9.tmps[4]?.getD undef = .int .i64 (i : Int) := freeF_ev hf
      exact flow_on (rfl) (flow_run (v := .int .i64 (i : Int)) (by go_simp) (But.refl _ _) (GV.of rfl))
    -- 52
    refine ⟨fun a9 w9 hR hk hf => ?_, ?_⟩
    · simp only [KnowF, FreeF, and_true] at hk hf
      have e50 := (hk.1).ev (v := .int .i64 (n : Int)) rfl
      have e51 := (hk.2).ev (v := .int .i64 (i : Int)) rfl
      have hw : IntKind.i64.wrap ((n : Int) + i) = (n : Int) + i := by rw [IntKind.wrap_i64]; omega
      exact flow_on (rfl) (flow_run (v := .int .i64 ((n : Int) + i)) (by go_simp) (But.refl _ _) (GV.of rfl))
    -- 53
    refine ⟨fun a9 w9 hR hk hf => ?_, ?_⟩
    · simp only [KnowF, FreeF, and_true] at hk hf
      have e52 := (hk).ev (v := .int .i64 ((n : Int) + i)) rfl
      have hm := HM.out
      exact flow_on (rfl) (flow_run (v := .int .i64 (m : Int)) (by go_simp) (But.refl _ _) (GV.of rfl))
    -- 54
    refine ⟨fun a9 w9 hR hk hf => ?_, ?_⟩
    · simp only [KnowF, FreeF, and_true] at hk hf
      have e49 := (hk.1).ev (v := .slice (some ⟨rb, 0, none⟩) 6 6) rfl
      have e53 := (hk.2).ev (v := .int .i64 (m : Int)) rfl
      have g0 : (0 : Int) ≤ m := by omega
      have g1 : (m : Int) < 6 := by omega
      have g2 : m < 6 := by omega
      exact flow_on (rfl) (flow_run (v := .pointer (some ⟨rb, m, none⟩)) (by go_simp) (But.refl _ _) (GV.of rfl))
    -- 55
    refine ⟨fun a9 w9 hR hk hf => ?_, ?_⟩
    · simp only [KnowF, FreeF, and_true] at hk hf
      have e54 := (hk).ev (v := .pointer (some ⟨rb, m, none⟩)) rfl
      have f0 := cell_but hR H2.out (by simp)
      exact flow_on (rfl) (flow_run (v := .int .u8 r2) (by go_simp) (But.refl _ _) (GV.of rfl))
    -- 56
    refine ⟨fun a9 w9 hR hk hf => ?_, ?_⟩
    · simp only [KnowF, FreeF, and_true] at hk hf
      have e2 : a9.tmps[2]?.getD undef = .slice (some ⟨ob, 0, none⟩) 7 7 := freeF_ev hf
      exact flow_on (rfl) (flow_run (v := .slice (some ⟨ob, 0, none⟩) 7 7) (by go_simp) (But.refl _ _) (GV.of rfl))
    -- 57
    refine ⟨fun a9 w9 hR hk hf => ?_, ?_⟩
    · simp only [KnowF, FreeF, and_true] at hk hf
      have e4 : a9.tmps[4]?.getD undef = .int .i64 (i : Int) := freeF_ev hf
      exact flow_on (rfl) (flow_run (v := .int .i64 (i : Int)) (by go_simp) (But.refl _ _) (GV.of rfl))
    -- 58
    refine ⟨fun a9 w9 hR hk hf => ?_, ?_⟩
    · simp only [KnowF, FreeF, and_true] at hk hf
      have e56 := (hk.1).ev (v := .slice (some ⟨ob, 0, none⟩) 7 7) rfl
      have e57 := (hk.2).ev (v := .int .i64 (i : Int)) rfl
      have g0 : (0 : Int) ≤ i := by omega
      have g1 : (i : Int) < 7 := by omega
      have g2 : i < 7 := by omega
      exact flow_on (rfl) (flow_run (v := .pointer (some ⟨ob, i, none⟩)) (by go_simp) (But.refl _ _) (GV.of rfl))
    -- 59
    refine ⟨fun a9 w9 hR hk hf => ?_, ?_⟩
    · simp only [KnowF, FreeF, and_true] at hk hf
      have e58 := (hk).ev (v := .pointer (some ⟨ob, i, none⟩)) rfl
      have f0 := cell_but hR H3.out (by simp)
      exact flow_on (rfl) (flow_run (v := .int .i16 fo) (by go_simp) (But.refl _ _) (GV.of rfl))
    -- 60
    refine ⟨fun a9 w9 hR hk hf => ?_, ?_⟩
    · simp only [KnowF, FreeF, and_true] at hk hf
      have e3 : a9.tmps[3]?.getD undef = .slice (some ⟨mb, 0, none⟩) 7 7 := freeF_ev hf
      exact flow_on (rfl) (flow_run (v := .slice (some ⟨mb, 0, none⟩) 7 7) (by go_simp) (But.refl _ _) (GV.of rfl))
    -- 61
    refine ⟨fun a9 w9 hR hk hf => ?_, ?_⟩
    · simp only [KnowF, FreeF, and_true] at hk hf
      have e5 : a9.tmps[5]?.getD undef = .int .i64 (k : Int) := freeF_ev hf
      exact flow_on (rfl) (flow_run (v := .int .i64 (k : Int)) (by go_simp) (But.refl _ _) (GV.of rfl))
    -- 62
    refine ⟨fun a9 w9 hR hk hf => ?_, ?_⟩
    · simp only [KnowF, FreeF, and_true] at hk hf
      have e60 := (hk.1).ev (v := .slice (some ⟨mb, 0, none⟩) 7 7) rfl
      have e61 := (hk.2).ev (v := .int .i64 (k : Int)) rfl
      have g0 : (0 : Int) ≤ k := by omega
      have g1 : (k : Int) < 7 := by omega
      have g2 : k < 7 := by omega
      exact flow_on (rfl) (flow_run (v := .pointer (some ⟨mb, k, none⟩)) (by go_simp) (But.refl _ _) (GV.of rfl))
    -- 63
    refine ⟨fun a9 w9 hR hk hf => ?_, ?_⟩
    · simp only [KnowF, FreeF, and_true] at hk hf
      have e62 := (hk).ev (v := .pointer (some ⟨mb, k, none⟩)) rfl
      have f0 := cell_but hR H4.out (by simp)
      exact flow_on (rfl) (flow_run (v := .int .i32 im) (by go_simp) (But.refl _ _) (GV.of rfl))
    -- 64
    refine ⟨fun a9 w9 hR hk hf => ?_, ?_⟩
    · simp only [KnowF, FreeF, and_true] at hk hf
      have e44 := (hk.1).ev (v := .int .u8 ((n : Int) * 51)) rfl
      have e48 := (hk.2.1).ev (v := .int .u8 r1) rfl
      have e55 := (hk.2.2.1).ev (v := .int .u8 r2) rfl
      have e59 := (hk.2.2.2.1).ev (v := .int .i16 fo) rfl
      have e63 := (hk.2.2.2.2).ev (v := .int .i32 im) rfl
      exact flow_on (rfl) (flow_run (v := .agg #[.int .u8 ((n : Int) * 51), .int .u8 r1, .int .u8 r2, .int .i16 fo, .int .i32 im]) (by go_simp) (But.refl _ _) (GV.of rfl))
    exact trivial
  · intro f w5 hb5 hG
    have e64 : f 64 = .agg #[.int .u8 ((n : Int) * 51), .int .u8 r1, .int .u8 r2, .int .i16 fo, .int .i32 im] := hG 22 _ 64 (by decide) rfl rfl _ rfl
    have HB5 := Lib.hid hb5
    clear hG hb5
    simp only [List.drop_succ_cons, List.drop_zero]
    show wpList _ _ _ _ { tmps := List.toArray (u0 :: .slice (some ⟨rb, 0, none⟩) 6 6 :: .slice (some ⟨ob, 0, none⟩) 7 7 :: .slice (some ⟨mb, 0, none⟩) 7 7 :: .int .i64 (i : Int) :: .int .i64 (k : Int) :: .int .i64 (n : Int) :: u7 :: u8 :: u9 :: u10 :: u11 :: u12 :: u13 :: u14 :: u15 :: u16 :: u17 :: u18 :: u19 :: u20 :: u21 :: u22 :: u23 :: u24 :: u25 :: u26 :: u27 :: u28 :: u29 :: u30 :: u31 :: u32 :: u33 :: u34 :: u35 :: u36 :: u37 :: u38 :: u39 :: u40 :: u41 :: f 42 :: f 43 :: f 44 :: f 45 :: f 46 :: f 47 :: f 48 :: f 49 :: f 50 :: f 51 :: f 52 :: f 53 :: f 54 :: f 55 :: f 56 :: f 57 :: f 58 :: f 59 :: f 60 :: f 61 :: f 62 :: f 63 :: f 64 :: u65 :: u66 :: u67 :: u68 :: u69 :: u70 :: u71 :: u72 :: u73 :: u74 :: u75 :: u76 :: u77 :: u78 :: u79 :: u80 :: u81 :: u82 :: u83 :: u84 :: u85 :: u86 :: u87 :: u88 :: u89 :: u90 :: u91 :: u92 :: u93 :: u94 :: u95 :: u96 :: u97 :: u98 :: u99 :: u100 :: u101 :: u102 :: u103 :: u104 :: u105 :: u106 :: u107 :: u108 :: u109 :: u110 :: u111 :: u112 :: u113 :: u114 :: u115 :: u116 :: u117 :: u118 :: u119 :: u120 :: u121 :: u122 :: u123 :: u124 :: u125 :: u126 :: u127 :: u128 :: u129 :: u130 :: u131 :: u132 :: u133 :: u134 :: u135 :: u136 :: u137 :: u138 :: u139 :: u140 :: u141 :: u142 :: u143 :: u144 :: u145 :: u146 :: u147 :: u148 :: u149 :: u150 :: u151 :: u152 :: u153 :: u154 :: u155 :: u156 :: u157 :: u158 :: u159 :: u160 :: u161 :: u162 :: u163 :: u164 :: u165 :: u166 :: u167 :: u168 :: u169 :: u170 :: u171 :: u172 :: u173 :: u174 :: u175 :: u176 :: u177 :: u178 :: u179 :: u180 :: u181 :: u182 :: []), defers := [] } w5
    go_wp2_with fail
    exact HQ.out _ _ _ _ _ _ _ _ _ _ _ _ _ _ _ _ _ _ _ _ _ _ _ _ HB5.out
end Go.Proofs.YtddeckkcfcodbaaGreat.M
