/-
  CellNone's last statement (printed by mkcawake.py).
-/
import Derived.Test.YtmaeiifhmngllaaNew
import Derived.Test.YtmaeiifhmngllaaFlowG
namespace Go.Proofs.Ytmaeiifhmngllaa.M
open Go.RowKit Go.Shelf
set_option linter.unusedVariables false
set_option linter.unusedSectionVars false
set_option linter.unusedSimpArgs false
noncomputable def code_none11 : Code := ((Try.f4.body.getD .skip |> regionOf5 11).getD .skip)
set_option maxRecDepth 100000 in
set_option maxHeartbeats 8000000 in
theorem none11 (Q : Exit → Act → World → Prop) {wr : World} {b6 b11 bs i bl c : Nat} {off n k wd rg of_ : Int} {a : Option Addr} {p : Value} (H6 : Hid (wr.heap[b6]? = some (.cells #[.int .u8 k, .int .u64 wd, .int .i64 rg, .int .i64 of_] 33))) (H11 : Hid (wr.heap[b11]? = some (.cells #[.int .u8 0, .int .u64 0, .int .i64 0, .int .i64 0] 33))) (HP : Hid (wr.cell? ⟨bs, i, none⟩ = some p)) (HI0 : Hid ((0 : Int) ≤ i)) (HI2 : Hid ((i : Int) < 2)) (HNO : Hid (NoOne wr p)) (HWF : Hid ((Lit.int .u8 k).wf = true)) {u2 u4 u5 u7 u8 u15 u16 u17 u18 u19 u20 u21 u22 u23 u24 u25 u26 u27 u28 u29 u30 u31 u32 u33 u34 u35 u36 u37 u38 u39 u40 u41 u42 u43 u44 u45 u46 u47 u48 u49 u50 u51 u52 u53 u54 u55 u56 u57 u58 u59 u60 u61 u62 u63 u64 u65 u66 u67 u68 u69 u70 u71 u72 u73 u74 u75 u76 u77 u78 u79 u80 u81 u82 u83 : Value} (hQ : ∀ (z47 z48 z49 z50 z51 z52 z53 z54 z55 z56 z57 z58 z59 z60 z61 z62 z63 z64 z65 z66 z67 z68 z69 z70 z71 z72 z73 z74 z75 z76 z77 z78 z79 z80 z81 z82 : Value) (w5 : World), But [] wr w5 → Q .normal { tmps := List.toArray (.int .i64 off :: .int .i64 n :: u2 :: .slice a bl c :: u4 :: u5 :: .pointer (some ⟨b6, 0, none⟩) :: u7 :: u8 :: .slice (some ⟨bs, 0, none⟩) 2 2 :: .int .i64 (i : Int) :: .pointer (some ⟨b11, 0, none⟩) :: .int .i64 1 :: .slice none 0 0 :: .int .i64 1 :: u15 :: u16 :: u17 :: u18 :: u19 :: u20 :: u21 :: u22 :: u23 :: u24 :: u25 :: u26 :: u27 :: u28 :: u29 :: u30 :: u31 :: u32 :: u33 :: u34 :: u35 :: u36 :: u37 :: u38 :: u39 :: u40 :: u41 :: u42 :: u43 :: u44 :: u45 :: u46 :: z47 :: z48 :: z49 :: z50 :: z51 :: z52 :: z53 :: z54 :: z55 :: z56 :: z57 :: z58 :: z59 :: z60 :: z61 :: z62 :: z63 :: z64 :: z65 :: z66 :: z67 :: z68 :: z69 :: z70 :: z71 :: z72 :: z73 :: z74 :: z75 :: z76 :: z77 :: z78 :: z79 :: z80 :: z81 :: z82 :: .bool false :: []), defers := [] } w5) :
    Code.wp Try.prog code_none11 Q { tmps := List.toArray (.int .i64 off :: .int .i64 n :: u2 :: .slice a bl c :: u4 :: u5 :: .pointer (some ⟨b6, 0, none⟩) :: u7 :: u8 :: .slice (some ⟨bs, 0, none⟩) 2 2 :: .int .i64 (i : Int) :: .pointer (some ⟨b11, 0, none⟩) :: .int .i64 1 :: .slice none 0 0 :: .int .i64 1 :: u15 :: u16 :: u17 :: u18 :: u19 :: u20 :: u21 :: u22 :: u23 :: u24 :: u25 :: u26 :: u27 :: u28 :: u29 :: u30 :: u31 :: u32 :: u33 :: u34 :: u35 :: u36 :: u37 :: u38 :: u39 :: u40 :: u41 :: u42 :: u43 :: u44 :: u45 :: u46 :: u47 :: u48 :: u49 :: u50 :: u51 :: u52 :: u53 :: u54 :: u55 :: u56 :: u57 :: u58 :: u59 :: u60 :: u61 :: u62 :: u63 :: u64 :: u65 :: u66 :: u67 :: u68 :: u69 :: u70 :: u71 :: u72 :: u73 :: u74 :: u75 :: u76 :: u77 :: u78 :: u79 :: u80 :: u81 :: u82 :: u83 :: []), defers := [] } wr := by
  have HQ := Lib.hid hQ
  clear hQ
  conv => arg 2; whnf
  refine wp_region_flowS 36 (by decide) (by kernel_rfl) (But []) (fun _ _ _ h1 h2 => h1.trans h2 (by simp)) (⟨rfl, rfl, rfl, Nat.le_refl _, fun _ _ _ => rfl⟩) (GV [.slice (some ⟨bs, 0, none⟩) 2 2, .int .i64 (i : Int), .pointer (some ⟨bs, i, none⟩), p, .int .i64 off, .int .i64 n, .agg #[.int .u8 k, .int .u64 wd, .int .i64 rg, .int .i64 of_], .int .i64 1, .bool false, .bool false, .int .i64 1, .bool false, .bool false, .bool false, .int .i64 1, .bool false, .bool false, .bool false, .agg #[.int .u8 0, .int .u64 0, .int .i64 0, .int .i64 0], .agg #[.int .u8 0, .int .u64 0, .int .i64 0, .int .i64 0], .bool false, .bool false, .bool false, .slice none 0 0, .int .i64 0, .bool false, .bool false, .bool false, .slice (some ⟨bs, 0, none⟩) 2 2, .int .i64 (i : Int), .pointer (some ⟨bs, i, none⟩), p, .int .i64 off, .slice a bl c, .int .i64 1, .bool false]) [[], [], [(0, 47), (1, 48)], [(2, 49)], [], [], [], [(3, 50), (4, 51), (5, 52), (6, 53)], [(7, 54)], [(8, 55)], [(9, 56)], [(9, 56), (10, 57)], [(9, 56), (11, 58)], [(12, 59)], [(13, 60)], [(13, 60), (14, 61)], [(13, 60), (15, 62)], [(16, 63)], [(17, 64)], [(17, 64)], [(17, 64), (18, 65), (19, 66)], [(17, 64), (20, 67)], [(21, 68)], [(22, 69)], [(22, 69), (23, 70)], [(22, 69), (24, 71)], [(22, 69), (25, 72)], [(26, 73)], [(27, 74)], [(27, 74)], [(27, 74), (28, 75), (29, 76)], [(27, 74), (30, 77)], [(27, 74)], [(27, 74)], [(27, 74), (31, 78), (32, 79), (33, 80)], [(27, 74), (34, 81)]] [[(9, .slice (some ⟨bs, 0, none⟩) 2 2)], [(10, .int .i64 (i : Int))], [], [], [(0, .int .i64 off)], [(1, .int .i64 n)], [(6, .pointer (some ⟨b6, 0, none⟩))], [], [], [], [(12, .int .i64 1)], [], [], [], [(14, .int .i64 1)], [], [], [], [(11, .pointer (some ⟨b11, 0, none⟩))], [], [], [], [], [(13, .slice none 0 0)], [], [], [], [], [(9, .slice (some ⟨bs, 0, none⟩) 2 2)], [(10, .int .i64 (i : Int))], [], [], [(0, .int .i64 off)], [(3, .slice a bl c)], [], []] (by kernel_rfl) (by kernel_rfl) (by kernel_rfl) (by kernel_rfl) ?_ (fun _ _ _ _ _ h _ => h) [none, none, none, none, none, none, none, none, none, none, none, none, none, none, none, none, none, none, none, none, none, none, none, none, none, none, none, none, none, none, none, none, none, none, none, none, none, none, none, none, none, none, none, none, none, none, none, some 47, some 48, some 49, some 50, some 51, some 52, some 53, some 54, some 55, some 56, some 57, some 58, some 59, some 60, some 61, some 62, some 63, some 64, some 65, some 66, some 67, some 68, some 69, some 70, some 71, some 72, some 73, some 74, some 75, some 76, some 77, some 78, some 79, some 80, some 81, some 82, none] (by kernel_rfl) (by rfl) ?_ ?_
  · exact ⟨⟨rfl, trivial⟩, ⟨rfl, trivial⟩, trivial, trivial, ⟨rfl, trivial⟩, ⟨rfl, trivial⟩, ⟨rfl, trivial⟩, trivial, trivial, trivial, ⟨rfl, trivial⟩, trivial, trivial, trivial, ⟨rfl, trivial⟩, trivial, trivial, trivial, ⟨rfl, trivial⟩, trivial, trivial, trivial, trivial, ⟨rfl, trivial⟩, trivial, trivial, trivial, trivial, ⟨rfl, trivial⟩, ⟨rfl, trivial⟩, trivial, trivial, ⟨rfl, trivial⟩, ⟨rfl, trivial⟩, trivial, trivial, trivial⟩
  · simp only [List.take_succ_cons, List.take_zero]
    -- 47
    refine ⟨fun a9 w9 hR hk hf => ?_, ?_⟩
    · simp only [KnowF, FreeF, and_true] at hk hf
      have e9 : a9.tmps[9]?.getD undef = .slice (some ⟨bs, 0, none⟩) 2 2 := freeF_ev hf
      exact flow_on (rfl) (flow_run (v := .slice (some ⟨bs, 0, none⟩) 2 2) (by go_simp) (But.refl _ _) (GV.of rfl))
    -- 48
    refine ⟨fun a9 w9 hR hk hf => ?_, ?_⟩
    · simp only [KnowF, FreeF, and_true] at hk hf
      have e10 : a9.tmps[10]?.getD undef = .int .i64 (i : Int) := freeF_ev hf
      exact flow_on (rfl) (flow_run (v := .int .i64 (i : Int)) (by go_simp) (But.refl _ _) (GV.of rfl))
    -- 49
    refine ⟨fun a9 w9 hR hk hf => ?_, ?_⟩
    · simp only [KnowF, FreeF, and_true] at hk hf
      have e47 := (hk.1).ev (v := .slice (some ⟨bs, 0, none⟩) 2 2) rfl
      have e48 := (hk.2).ev (v := .int .i64 (i : Int)) rfl
      have g0 := HI0.out
      have g1 := HI2.out
      exact flow_on (rfl) (flow_run (v := .pointer (some ⟨bs, i, none⟩)) (by go_simp) (But.refl _ _) (GV.of rfl))
    -- 50
    refine ⟨fun a9 w9 hR hk hf => ?_, ?_⟩
    · simp only [KnowF, FreeF, and_true] at hk hf
      have e49 := (hk).ev (v := .pointer (some ⟨bs, i, none⟩)) rfl
      have f0 := cell_but hR HP.out (by simp)
      exact flow_on (rfl) (flow_run (v := p) (by go_simp) (But.refl _ _) (GV.of rfl))
    -- 51
    refine ⟨fun a9 w9 hR hk hf => ?_, ?_⟩
    · simp only [KnowF, FreeF, and_true] at hk hf
      have e0 : a9.tmps[0]?.getD undef = .int .i64 off := freeF_ev hf
      exact flow_on (rfl) (flow_run (v := .int .i64 off) (by go_simp) (But.refl _ _) (GV.of rfl))
    -- 52
    refine ⟨fun a9 w9 hR hk hf => ?_, ?_⟩
    · simp only [KnowF, FreeF, and_true] at hk hf
      have e1 : a9.tmps[1]?.getD undef = .int .i64 n := freeF_ev hf
      exact flow_on (rfl) (flow_run (v := .int .i64 n) (by go_simp) (But.refl _ _) (GV.of rfl))
    -- 53
    refine ⟨fun a9 w9 hR hk hf => ?_, ?_⟩
    · simp only [KnowF, FreeF, and_true] at hk hf
      have e6 : a9.tmps[6]?.getD undef = .pointer (some ⟨b6, 0, none⟩) := freeF_ev hf
      have hh := hR.heap H6.out (by simp)
      have f0 := cl_of hh 0
      have f1 := cl_of hh 1
      have f2 := cl_of hh 2
      have f3 := cl_of hh 3
      simp only [List.getElem?_toArray, List.getElem?_cons_zero, List.getElem?_cons_succ] at f0 f1 f2 f3
      clear hh
      exact flow_on (rfl) (flow_run (v := .agg #[.int .u8 k, .int .u64 wd, .int .i64 rg, .int .i64 of_]) (by go_simp) (But.refl _ _) (GV.of rfl))
    -- 54
    refine ⟨fun a9 w9 hR hk hf => ?_, ?_⟩
    · simp only [KnowF, FreeF, and_true] at hk hf
      have e50 := (hk.1).ev (v := p) rfl
      have e51 := (hk.2.1).ev (v := .int .i64 off) rfl
      have e52 := (hk.2.2.1).ev (v := .int .i64 n) rfl
      have e53 := (hk.2.2.2).ev (v := .agg #[.int .u8 k, .int .u64 wd, .int .i64 rg, .int .i64 of_]) rfl
      exact flow_on (rfl) (flow_call (f := 22) (args := #[p, .int .i64 off, .int .i64 n, .agg #[.int .u8 k, .int .u64 wd, .int .i64 rg, .int .i64 of_]]) (by go_simp) ((no_store (HNO.out.but hR) off n ⟨k, wd, rg, of_⟩ HWF.out).mono (by rintro e w' ⟨rfl, hb⟩; exact ⟨_, rfl, hb, GV.of rfl⟩)))
    -- 55
    refine ⟨fun a9 w9 hR hk hf => ?_, ?_⟩
    · simp only [KnowF, FreeF, and_true] at hk hf
      have e54 := (hk).ev (v := .int .i64 1) rfl
      exact flow_on (rfl) (flow_run (v := .bool false) (by go_simp) (But.refl _ _) (GV.of rfl))
    -- 56
    refine ⟨fun a9 w9 hR hk hf => ?_, ?_⟩
    · simp only [KnowF, FreeF, and_true] at hk hf
      have e55 := (hk).ev (v := .bool false) rfl
      exact flow_on (rfl) (flow_run (v := .bool false) (by go_simp) (But.refl _ _) (GV.of rfl))
    -- 57
    refine ⟨fun a9 w9 hR hk hf => ?_, ?_⟩
    · simp only [KnowF, FreeF, and_true] at hk hf
      have hgd := (hk).eval (v := .bool false) rfl
      have e12 : a9.tmps[12]?.getD undef = .int .i64 1 := freeF_ev hf
      exact flow_on (wanted_at (j := 9) (b := false) (s := 56) rfl rfl hgd) (flow_run (v := .int .i64 1) (by go_simp) (But.refl _ _) (GV.of rfl))
    -- 58
    refine ⟨fun a9 w9 hR hk hf => ?_, ?_⟩
    · simp only [KnowF, FreeF, and_true] at hk hf
      have hgd := (hk.1).eval (v := .bool false) rfl
      have e57 := (hk.2).ev (v := .int .i64 1) rfl
      exact flow_on (wanted_at (j := 9) (b := false) (s := 56) rfl rfl hgd) (flow_run (v := .bool false) (by go_simp) (But.refl _ _) (GV.of rfl))
    -- 59
    refine ⟨fun a9 w9 hR hk hf => ?_, ?_⟩
    · simp only [KnowF, FreeF, and_true] at hk hf
      have e56 := (hk.1).ev (v := .bool false) rfl
      have e58 := (hk.2).ev (v := .bool false) rfl
      exact flow_on (rfl) (flow_run (v := .bool false) (by go_simp) (But.refl _ _) (GV.of rfl))
    -- 60
    refine ⟨fun a9 w9 hR hk hf => ?_, ?_⟩
    · simp only [KnowF, FreeF, and_true] at hk hf
      have e59 := (hk).ev (v := .bool false) rfl
      exact flow_on (rfl) (flow_run (v := .bool false) (by go_simp) (But.refl _ _) (GV.of rfl))
    -- 61
    refine ⟨fun a9 w9 hR hk hf => ?_, ?_⟩
    · simp only [KnowF, FreeF, and_true] at hk hf
      have hgd := (hk).eval (v := .bool false) rfl
      have e14 : a9.tmps[14]?.getD undef = .int .i64 1 := freeF_ev hf
      exact flow_on (wanted_at (j := 13) (b := false) (s := 60) rfl rfl hgd) (flow_run (v := .int .i64 1) (by go_simp) (But.refl _ _) (GV.of rfl))
    -- 62
    refine ⟨fun a9 w9 hR hk hf => ?_, ?_⟩
    · simp only [KnowF, FreeF, and_true] at hk hf
      have hgd := (hk.1).eval (v := .bool false) rfl
      have e61 := (hk.2).ev (v := .int .i64 1) rfl
      exact flow_on (wanted_at (j := 13) (b := false) (s := 60) rfl rfl hgd) (flow_run (v := .bool false) (by go_simp) (But.refl _ _) (GV.of rfl))
    -- 63
    refine ⟨fun a9 w9 hR hk hf => ?_, ?_⟩
    · simp only [KnowF, FreeF, and_true] at hk hf
      have e60 := (hk.1).ev (v := .bool false) rfl
      have e62 := (hk.2).ev (v := .bool false) rfl
      exact flow_on (rfl) (flow_run (v := .bool false) (by go_simp) (But.refl _ _) (GV.of rfl))
    -- 64
    refine ⟨fun a9 w9 hR hk hf => ?_, ?_⟩
    · simp only [KnowF, FreeF, and_true] at hk hf
      have e63 := (hk).ev (v := .bool false) rfl
      exact flow_on (rfl) (flow_run (v := .bool false) (by go_simp) (But.refl _ _) (GV.of rfl))
    -- 65
    refine ⟨fun a9 w9 hR hk hf => ?_, ?_⟩
    · simp only [KnowF, FreeF, and_true] at hk hf
      have hgd := (hk).eval (v := .bool false) rfl
      have e11 : a9.tmps[11]?.getD undef = .pointer (some ⟨b11, 0, none⟩) := freeF_ev hf
      have hh := hR.heap H11.out (by simp)
      have f0 := cl_of hh 0
      have f1 := cl_of hh 1
      have f2 := cl_of hh 2
      have f3 := cl_of hh 3
      simp only [List.getElem?_toArray, List.getElem?_cons_zero, List.getElem?_cons_succ] at f0 f1 f2 f3
      clear hh
      exact flow_on (wanted_at (j := 17) (b := false) (s := 64) rfl rfl hgd) (flow_run (v := .agg #[.int .u8 0, .int .u64 0, .int .i64 0, .int .i64 0]) (by go_simp) (But.refl _ _) (GV.of rfl))
    -- 66
    refine ⟨fun a9 w9 hR hk hf => ?_, ?_⟩
    · simp only [KnowF, FreeF, and_true] at hk hf
      have hgd := (hk).eval (v := .bool false) rfl
      exact flow_on (wanted_at (j := 17) (b := false) (s := 64) rfl rfl hgd) (flow_run (v := .agg #[.int .u8 0, .int .u64 0, .int .i64 0, .int .i64 0]) (by go_simp) (But.refl _ _) (GV.of rfl))
    -- 67
    refine ⟨fun a9 w9 hR hk hf => ?_, ?_⟩
    · simp only [KnowF, FreeF, and_true] at hk hf
      have hgd := (hk.1).eval (v := .bool false) rfl
      have e65 := (hk.2.1).ev (v := .agg #[.int .u8 0, .int .u64 0, .int .i64 0, .int .i64 0]) rfl
      have e66 := (hk.2.2).ev (v := .agg #[.int .u8 0, .int .u64 0, .int .i64 0, .int .i64 0]) rfl
      exact flow_on (wanted_at (j := 17) (b := false) (s := 64) rfl rfl hgd) (flow_run (v := .bool false) (by go_simp) (But.refl _ _) (GV.of rfl))
    -- 68
    refine ⟨fun a9 w9 hR hk hf => ?_, ?_⟩
    · simp only [KnowF, FreeF, and_true] at hk hf
      have e64 := (hk.1).ev (v := .bool false) rfl
      have e67 := (hk.2).ev (v := .bool false) rfl
      exact flow_on (rfl) (flow_run (v := .bool false) (by go_simp) (But.refl _ _) (GV.of rfl))
    -- 69
    refine ⟨fun a9 w9 hR hk hf => ?_, ?_⟩
    · simp only [KnowF, FreeF, and_true] at hk hf
      have e68 := (hk).ev (v := .bool false) rfl
      exact flow_on (rfl) (flow_run (v := .bool false) (by go_simp) (But.refl _ _) (GV.of rfl))
    -- 70
    refine ⟨fun a9 w9 hR hk hf => ?_, ?_⟩
    · simp only [KnowF, FreeF, and_true] at hk hf
      have hgd := (hk).eval (v := .bool false) rfl
      have e13 : a9.tmps[13]?.getD undef = .slice none 0 0 := freeF_ev hf
      exact flow_on (wanted_at (j := 22) (b := false) (s := 69) rfl rfl hgd) (flow_run (v := .slice none 0 0) (by go_simp) (But.refl _ _) (GV.of rfl))
    -- 71
    refine ⟨fun a9 w9 hR hk hf => ?_, ?_⟩
    · simp only [KnowF, FreeF, and_true] at hk hf
      have hgd := (hk.1).eval (v := .bool false) rfl
      have e70 := (hk.2).ev (v := .slice none 0 0) rfl
      exact flow_on (wanted_at (j := 22) (b := false) (s := 69) rfl rfl hgd) (flow_run (v := .int .i64 0) (by go_simp) (But.refl _ _) (GV.of rfl))
    -- 72
    refine ⟨fun a9 w9 hR hk hf => ?_, ?_⟩
    · simp only [KnowF, FreeF, and_true] at hk hf
      have hgd := (hk.1).eval (v := .bool false) rfl
      have e71 := (hk.2).ev (v := .int .i64 0) rfl
      exact flow_on (wanted_at (j := 22) (b := false) (s := 69) rfl rfl hgd) (flow_run (v := .bool false) (by go_simp) (But.refl _ _) (GV.of rfl))
    -- 73
    refine ⟨fun a9 w9 hR hk hf => ?_, ?_⟩
    · simp only [KnowF, FreeF, and_true] at hk hf
      have e69 := (hk.1).ev (v := .bool false) rfl
      have e72 := (hk.2).ev (v := .bool false) rfl
      exact flow_on (rfl) (flow_run (v := .bool false) (by go_simp) (But.refl _ _) (GV.of rfl))
    -- 74
    refine ⟨fun a9 w9 hR hk hf => ?_, ?_⟩
    · simp only [KnowF, FreeF, and_true] at hk hf
      have e73 := (hk).ev (v := .bool false) rfl
      exact flow_on (rfl) (flow_run (v := .bool false) (by go_simp) (But.refl _ _) (GV.of rfl))
    -- 75
    refine ⟨fun a9 w9 hR hk hf => ?_, ?_⟩
    · simp only [KnowF, FreeF, and_true] at hk hf
      have hgd := (hk).eval (v := .bool false) rfl
      have e9 : a9.tmps[9]?.getD undef = .slice (some ⟨bs, 0, none⟩) 2 2 := freeF_ev hf
      exact flow_on (wanted_at (j := 27) (b := false) (s := 74) rfl rfl hgd) (flow_run (v := .slice (some ⟨bs, 0, none⟩) 2 2) (by go_simp) (But.refl _ _) (GV.of rfl))
    -- 76
    refine ⟨fun a9 w9 hR hk hf => ?_, ?_⟩
    · simp only [KnowF, FreeF, and_true] at hk hf
      have hgd := (hk).eval (v := .bool false) rfl
      have e10 : a9.tmps[10]?.getD undef = .int .i64 (i : Int) := freeF_ev hf
      exact flow_on (wanted_at (j := 27) (b := false) (s := 74) rfl rfl hgd) (flow_run (v := .int .i64 (i : Int)) (by go_simp) (But.refl _ _) (GV.of rfl))
    -- 77
    refine ⟨fun a9 w9 hR hk hf => ?_, ?_⟩
    · simp only [KnowF, FreeF, and_true] at hk hf
      have hgd := (hk.1).eval (v := .bool false) rfl
      have e75 := (hk.2.1).ev (v := .slice (some ⟨bs, 0, none⟩) 2 2) rfl
      have e76 := (hk.2.2).ev (v := .int .i64 (i : Int)) rfl
      have g0 := HI0.out
      have g1 := HI2.out
      exact flow_on (wanted_at (j := 27) (b := false) (s := 74) rfl rfl hgd) (flow_run (v := .pointer (some ⟨bs, i, none⟩)) (by go_simp) (But.refl _ _) (GV.of rfl))
    -- 78
    refine ⟨fun a9 w9 hR hk hf => ?_, ?_⟩
    · simp only [KnowF, FreeF, and_true] at hk hf
      have hgd := (hk.1).eval (v := .bool false) rfl
      have e77 := (hk.2).ev (v := .pointer (some ⟨bs, i, none⟩)) rfl
      have f0 := cell_but hR HP.out (by simp)
      exact flow_on (wanted_at (j := 27) (b := false) (s := 74) rfl rfl hgd) (flow_run (v := p) (by go_simp) (But.refl _ _) (GV.of rfl))
    -- 79
    refine ⟨fun a9 w9 hR hk hf => ?_, ?_⟩
    · simp only [KnowF, FreeF, and_true] at hk hf
      have hgd := (hk).eval (v := .bool false) rfl
      have e0 : a9.tmps[0]?.getD undef = .int .i64 off := freeF_ev hf
      exact flow_on (wanted_at (j := 27) (b := false) (s := 74) rfl rfl hgd) (flow_run (v := .int .i64 off) (by go_simp) (But.refl _ _) (GV.of rfl))
    -- 80
    refine ⟨fun a9 w9 hR hk hf => ?_, ?_⟩
    · simp only [KnowF, FreeF, and_true] at hk hf
      have hgd := (hk).eval (v := .bool false) rfl
      have e3 : a9.tmps[3]?.getD undef = .slice a bl c := freeF_ev hf
      exact flow_on (wanted_at (j := 27) (b := false) (s := 74) rfl rfl hgd) (flow_run (v := .slice a bl c) (by go_simp) (But.refl _ _) (GV.of rfl))
    -- 81
    refine ⟨fun a9 w9 hR hk hf => ?_, ?_⟩
    · simp only [KnowF, FreeF, and_true] at hk hf
      have hgd := (hk.1).eval (v := .bool false) rfl
      have e78 := (hk.2.1).ev (v := p) rfl
      have e79 := (hk.2.2.1).ev (v := .int .i64 off) rfl
      have e80 := (hk.2.2.2).ev (v := .slice a bl c) rfl
      exact flow_on (wanted_at (j := 27) (b := false) (s := 74) rfl rfl hgd) (flow_call (f := 19) (args := #[p, .int .i64 off, .slice a bl c]) (by go_simp) ((no_write (HNO.out.but hR) off a bl c).mono (by rintro e w' ⟨rfl, rfl⟩; exact ⟨_, rfl, But.refl _ _, GV.of rfl⟩)))
    -- 82
    refine ⟨fun a9 w9 hR hk hf => ?_, ?_⟩
    · simp only [KnowF, FreeF, and_true] at hk hf
      have hgd := (hk.1).eval (v := .bool false) rfl
      have e81 := (hk.2).ev (v := .int .i64 1) rfl
      exact flow_on (wanted_at (j := 27) (b := false) (s := 74) rfl rfl hgd) (flow_run (v := .bool false) (by go_simp) (But.refl _ _) (GV.of rfl))
    exact trivial
  · intro f w5 hb5 hG
    have e74 : f 74 = .bool false := hG 27 _ 74 (by decide) rfl rfl _ rfl
    have e82 : f 82 = .bool false := hG 35 _ 82 (by decide) rfl rfl _ rfl
    have HB5 := Lib.hid hb5
    clear hG hb5
    simp only [List.drop_succ_cons, List.drop_zero]
    show wpList _ _ _ _ { tmps := List.toArray (.int .i64 off :: .int .i64 n :: u2 :: .slice a bl c :: u4 :: u5 :: .pointer (some ⟨b6, 0, none⟩) :: u7 :: u8 :: .slice (some ⟨bs, 0, none⟩) 2 2 :: .int .i64 (i : Int) :: .pointer (some ⟨b11, 0, none⟩) :: .int .i64 1 :: .slice none 0 0 :: .int .i64 1 :: u15 :: u16 :: u17 :: u18 :: u19 :: u20 :: u21 :: u22 :: u23 :: u24 :: u25 :: u26 :: u27 :: u28 :: u29 :: u30 :: u31 :: u32 :: u33 :: u34 :: u35 :: u36 :: u37 :: u38 :: u39 :: u40 :: u41 :: u42 :: u43 :: u44 :: u45 :: u46 :: f 47 :: f 48 :: f 49 :: f 50 :: f 51 :: f 52 :: f 53 :: f 54 :: f 55 :: f 56 :: f 57 :: f 58 :: f 59 :: f 60 :: f 61 :: f 62 :: f 63 :: f 64 :: f 65 :: f 66 :: f 67 :: f 68 :: f 69 :: f 70 :: f 71 :: f 72 :: f 73 :: f 74 :: f 75 :: f 76 :: f 77 :: f 78 :: f 79 :: f 80 :: f 81 :: f 82 :: u83 :: []), defers := [] } w5
    go_wp2_with fail
    exact HQ.out _ _ _ _ _ _ _ _ _ _ _ _ _ _ _ _ _ _ _ _ _ _ _ _ _ _ _ _ _ _ _ _ _ _ _ _ _ HB5.out
end Go.Proofs.Ytmaeiifhmngllaa.M
