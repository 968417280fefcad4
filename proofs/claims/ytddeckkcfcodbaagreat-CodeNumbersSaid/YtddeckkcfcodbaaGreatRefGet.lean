/-
  hatchwayref02.Get of any bytes (printed by mkrefget.py).
-/
import Derived.Test.YtddeckkcfcodbaaGreatGet
import Derived.Test.YtddeckkcfcodbaaGreatRowI
import Derived.Test.YtddeckkcfcodbaaGreatFlatIA
namespace Go.Proofs.YtddeckkcfcodbaaGreat.M
open Go.RowKit Go.Shelf
set_option linter.unusedVariables false
set_option linter.unusedSectionVars false
set_option linter.unusedSimpArgs false
noncomputable def code_grg9 : Code := ((Tryz.f7.body.getD .skip |> regionOf5 9).getD .skip)
set_option maxRecDepth 100000 in
set_option maxHeartbeats 8000000 in
theorem rg9 (Q : Exit → Act → World → Prop) {wr : World} {b o n c q : Nat} {d : Nat → Int} (hq0 : (0 : Int) ≤ q) (hq1 : (q : Int) + 8 ≤ n) (hq2 : (q : Int) ≤ 1000000000) (H8 : Hid (∀ j, j < 8 → wr.cell? ⟨b, o + (q + j), none⟩ = some (.int .u8 (d j)))) (HD : Hid (∀ j, 0 ≤ d j ∧ d j ≤ 255)) {u1 u2 u3 u4 u6 u7 u8 u9 u10 u11 u12 u13 u14 u15 u16 u17 u18 u19 u20 u21 u22 u23 u24 u25 u26 u27 u28 u29 u30 u31 u32 u33 u34 u35 u36 u37 u38 u39 u40 u41 u42 u43 u44 u45 u46 u47 u48 u49 u50 u51 u52 u53 u54 u55 u56 u57 u58 u59 u60 u61 u62 u63 u64 u65 u66 u67 u68 u69 u70 u71 u72 u73 u74 u75 u76 u77 u78 u79 u80 u81 u82 u83 u84 u85 u86 u87 u88 u89 : Value} (hQ : ∀ (z21 z22 z23 z24 z25 z26 z27 z28 z29 z30 z31 z32 z33 z34 : Value) (w5 : World), But [] wr w5 → Q .normal { tmps := List.toArray (.slice (some ⟨b, o, none⟩) n c :: u1 :: u2 :: u3 :: u4 :: .int .i64 (q : Int) :: .int .u16 (d 2 + d 3 * 256) :: u7 :: u8 :: u9 :: u10 :: u11 :: u12 :: u13 :: u14 :: u15 :: u16 :: u17 :: u18 :: u19 :: u20 :: z21 :: z22 :: z23 :: z24 :: z25 :: z26 :: z27 :: z28 :: z29 :: z30 :: z31 :: z32 :: z33 :: z34 :: u35 :: u36 :: u37 :: u38 :: u39 :: u40 :: u41 :: u42 :: u43 :: u44 :: u45 :: u46 :: u47 :: u48 :: u49 :: u50 :: u51 :: u52 :: u53 :: u54 :: u55 :: u56 :: u57 :: u58 :: u59 :: u60 :: u61 :: u62 :: u63 :: u64 :: u65 :: u66 :: u67 :: u68 :: u69 :: u70 :: u71 :: u72 :: u73 :: u74 :: u75 :: u76 :: u77 :: u78 :: u79 :: u80 :: u81 :: u82 :: u83 :: u84 :: u85 :: u86 :: u87 :: u88 :: u89 :: []), defers := [] } w5) :
    Code.wp Tryz.prog code_grg9 Q { tmps := List.toArray (.slice (some ⟨b, o, none⟩) n c :: u1 :: u2 :: u3 :: u4 :: .int .i64 (q : Int) :: u6 :: u7 :: u8 :: u9 :: u10 :: u11 :: u12 :: u13 :: u14 :: u15 :: u16 :: u17 :: u18 :: u19 :: u20 :: u21 :: u22 :: u23 :: u24 :: u25 :: u26 :: u27 :: u28 :: u29 :: u30 :: u31 :: u32 :: u33 :: u34 :: u35 :: u36 :: u37 :: u38 :: u39 :: u40 :: u41 :: u42 :: u43 :: u44 :: u45 :: u46 :: u47 :: u48 :: u49 :: u50 :: u51 :: u52 :: u53 :: u54 :: u55 :: u56 :: u57 :: u58 :: u59 :: u60 :: u61 :: u62 :: u63 :: u64 :: u65 :: u66 :: u67 :: u68 :: u69 :: u70 :: u71 :: u72 :: u73 :: u74 :: u75 :: u76 :: u77 :: u78 :: u79 :: u80 :: u81 :: u82 :: u83 :: u84 :: u85 :: u86 :: u87 :: u88 :: u89 :: []), defers := [] } wr := by
  have HQ := Lib.hid hQ
  clear hQ
  conv => arg 2; whnf
  refine wp_region_flowS 14 (by decide) (by kernel_rfl) (But []) (fun _ _ _ h1 h2 => h1.trans h2 (by simp)) (⟨rfl, rfl, rfl, Nat.le_refl _, fun _ _ _ => rfl⟩) (GV [.slice (some ⟨b, o, none⟩) n c, .int .i64 (q : Int), .int .i64 ((q : Int) + 2), .pointer (some ⟨b, o + (q + 2), none⟩), .int .u8 (d 2), .int .u16 (d 2), .slice (some ⟨b, o, none⟩) n c, .int .i64 (q : Int), .int .i64 ((q : Int) + 3), .pointer (some ⟨b, o + (q + 3), none⟩), .int .u8 (d 3), .int .u16 (d 3), .int .u16 (d 3 * 256), .int .u16 (d 2 + d 3 * 256)]) [[], [], [(1, 22)], [(0, 21), (2, 23)], [(3, 24)], [(4, 25)], [], [], [(7, 28)], [(6, 27), (8, 29)], [(9, 30)], [(10, 31)], [(11, 32)], [(5, 26), (12, 33)]] [[(0, .slice (some ⟨b, o, none⟩) n c)], [(5, .int .i64 (q : Int))], [], [], [], [], [(0, .slice (some ⟨b, o, none⟩) n c)], [(5, .int .i64 (q : Int))], [], [], [], [], [], []] (by kernel_rfl) (by kernel_rfl) (by kernel_rfl) (by kernel_rfl) ?_ (fun _ _ _ _ _ h _ => h) [none, none, none, none, none, none, none, none, none, none, none, none, none, none, none, none, none, none, none, none, none, some 21, some 22, some 23, some 24, some 25, some 26, some 27, some 28, some 29, some 30, some 31, some 32, some 33, some 34, none, none, none, none, none, none, none, none, none, none, none, none, none, none, none, none, none, none, none, none, none, none, none, none, none, none, none, none, none, none, none, none, none, none, none, none, none, none, none, none, none, none, none, none, none, none, none, none, none, none, none, none, none, none, none] (by kernel_rfl) (by rfl) ?_ ?_
  · exact ⟨⟨rfl, trivial⟩, ⟨rfl, trivial⟩, trivial, trivial, trivial, trivial, ⟨rfl, trivial⟩, ⟨rfl, trivial⟩, trivial, trivial, trivial, trivial, trivial, trivial, trivial⟩
  · simp only [List.take_succ_cons, List.take_zero]
    -- 21
    refine ⟨fun a9 w9 hR hk hf => ?_, ?_⟩
    · simp only [KnowF, FreeF, and_true] at hk hf
      have e0 : a9.tmps[0]?.getD undef = .slice (some ⟨b, o, none⟩) n c := freeF_ev hf
      exact flow_on (rfl) (flow_run (v := .slice (some ⟨b, o, none⟩) n c) (by go_simp) (But.refl _ _) (GV.of rfl))
    -- 22
    refine ⟨fun a9 w9 hR hk hf => ?_, ?_⟩
    · simp only [KnowF, FreeF, and_true] at hk hf
      have e5 : a9.tmps[5]?.getD undef = .int .i64 (q : Int) := freeF_ev hf
      exact flow_on (rfl) (flow_run (v := .int .i64 (q : Int)) (by go_simp) (But.refl _ _) (GV.of rfl))
    -- 23
    refine ⟨fun a9 w9 hR hk hf => ?_, ?_⟩
    · simp only [KnowF, FreeF, and_true] at hk hf
      have e22 := (hk).ev (v := .int .i64 (q : Int)) rfl
      have hw : IntKind.i64.wrap ((q : Int) + 2) = (q : Int) + 2 := by rw [IntKind.wrap_i64]; omega
      exact flow_on (rfl) (flow_run (v := .int .i64 ((q : Int) + 2)) (by go_simp) (But.refl _ _) (GV.of rfl))
    -- 24
    refine ⟨fun a9 w9 hR hk hf => ?_, ?_⟩
    · simp only [KnowF, FreeF, and_true] at hk hf
      have e21 := (hk.1).ev (v := .slice (some ⟨b, o, none⟩) n c) rfl
      have e23 := (hk.2).ev (v := .int .i64 ((q : Int) + 2)) rfl
      have g0 : (0 : Int) ≤ (q : Int) + 2 := by omega
      have g1 : (q : Int) + 2 < n := by omega
      have g2 : ((q : Int) + 2).toNat = q + 2 := by omega
      exact flow_on (rfl) (flow_run (v := .pointer (some ⟨b, o + (q + 2), none⟩)) (by go_simp) (But.refl _ _) (GV.of rfl))
    -- 25
    refine ⟨fun a9 w9 hR hk hf => ?_, ?_⟩
    · simp only [KnowF, FreeF, and_true] at hk hf
      have e24 := (hk).ev (v := .pointer (some ⟨b, o + (q + 2), none⟩)) rfl
      have f0 := cell_but hR (H8.out 2 (by decide)) (by simp)
      exact flow_on (rfl) (flow_run (v := .int .u8 (d 2)) (by go_simp) (But.refl _ _) (GV.of rfl))
    -- 26
    refine ⟨fun a9 w9 hR hk hf => ?_, ?_⟩
    · simp only [KnowF, FreeF, and_true] at hk hf
      have e25 := (hk).ev (v := .int .u8 (d 2)) rfl
      have h2 := HD.out 2
      have hw : IntKind.u16.wrap (d 2) = d 2 := by rw [IntKind.wrap_u16]; omega
      exact flow_on (rfl) (flow_run (v := .int .u16 (d 2)) (by go_simp) (But.refl _ _) (GV.of rfl))
    -- 27
    refine ⟨fun a9 w9 hR hk hf => ?_, ?_⟩
    · simp only [KnowF, FreeF, and_true] at hk hf
      have e0 : a9.tmps[0]?.getD undef = .slice (some ⟨b, o, none⟩) n c := freeF_ev hf
      exact flow_on (rfl) (flow_run (v := .slice (some ⟨b, o, none⟩) n c) (by go_simp) (But.refl _ _) (GV.of rfl))
    -- 28
    refine ⟨fun a9 w9 hR hk hf => ?_, ?_⟩
    · simp only [KnowF, FreeF, and_true] at hk hf
      have e5 : a9.tmps[5]?.getD undef = .int .i64 (q : Int) := freeF_ev hf
      exact flow_on (rfl) (flow_run (v := .int .i64 (q : Int)) (by go_simp) (But.refl _ _) (GV.of rfl))
    -- 29
    refine ⟨fun a9 w9 hR hk hf => ?_, ?_⟩
    · simp only [KnowF, FreeF, and_true] at hk hf
      have e28 := (hk).ev (v := .int .i64 (q : Int)) rfl
      have hw : IntKind.i64.wrap ((q : Int) + 3) = (q : Int) + 3 := by rw [IntKind.wrap_i64]; omega
      exact flow_on (rfl) (flow_run (v := .int .i64 ((q : Int) + 3)) (by go_simp) (But.refl _ _) (GV.of rfl))
    -- 30
    refine ⟨fun a9 w9 hR hk hf => ?_, ?_⟩
    · simp only [KnowF, FreeF, and_true] at hk hf
      have e27 := (hk.1).ev (v := .slice (some ⟨b, o, none⟩) n c) rfl
      have e29 := (hk.2).ev (v := .int .i64 ((q : Int) + 3)) rfl
      have g0 : (0 : Int) ≤ (q : Int) + 3 := by omega
      have g1 : (q : Int) + 3 < n := by omega
      have g2 : ((q : Int) + 3).toNat = q + 3 := by omega
      exact flow_on (rfl) (flow_run (v := .pointer (some ⟨b, o + (q + 3), none⟩)) (by go_simp) (But.refl _ _) (GV.of rfl))
    -- 31
    refine ⟨fun a9 w9 hR hk hf => ?_, ?_⟩
    · simp only [KnowF, FreeF, and_true] at hk hf
      have e30 := (hk).ev (v := .pointer (some ⟨b, o + (q + 3), none⟩)) rfl
      have f0 := cell_but hR (H8.out 3 (by decide)) (by simp)
      exact flow_on (rfl) (flow_run (v := .int .u8 (d 3)) (by go_simp) (But.refl _ _) (GV.of rfl))
    -- 32
    refine ⟨fun a9 w9 hR hk hf => ?_, ?_⟩
    · simp only [KnowF, FreeF, and_true] at hk hf
      have e31 := (hk).ev (v := .int .u8 (d 3)) rfl
      have h3 := HD.out 3
      have hw : IntKind.u16.wrap (d 3) = d 3 := by rw [IntKind.wrap_u16]; omega
      exact flow_on (rfl) (flow_run (v := .int .u16 (d 3)) (by go_simp) (But.refl _ _) (GV.of rfl))
    -- 33
    refine ⟨fun a9 w9 hR hk hf => ?_, ?_⟩
    · simp only [KnowF, FreeF, and_true] at hk hf
      have e32 := (hk).ev (v := .int .u16 (d 3)) rfl
      have h3 := HD.out 3
      have hw : IntKind.u16.wrap (d 3 * 256) = d 3 * 256 := by rw [IntKind.wrap_u16]; omega
      exact flow_on (rfl) (flow_run (v := .int .u16 (d 3 * 256)) (by go_simp) (But.refl _ _) (GV.of rfl))
    -- 34
    refine ⟨fun a9 w9 hR hk hf => ?_, ?_⟩
    · simp only [KnowF, FreeF, and_true] at hk hf
      have e26 := (hk.1).ev (v := .int .u16 (d 2)) rfl
      have e33 := (hk.2).ev (v := .int .u16 (d 3 * 256)) rfl
      have h2 := HD.out 2
      have h3 := HD.out 3
      have hw : IntKind.u16.wrap (d 2 + d 3 * 256) = d 2 + d 3 * 256 := by rw [IntKind.wrap_u16]; omega
      exact flow_on (rfl) (flow_run (v := .int .u16 (d 2 + d 3 * 256)) (by go_simp) (But.refl _ _) (GV.of rfl))
    exact trivial
  · intro f w5 hb5 hG
    have e34 : f 34 = .int .u16 (d 2 + d 3 * 256) := hG 13 _ 34 (by decide) rfl rfl _ rfl
    have HB5 := Lib.hid hb5
    clear hG hb5
    simp only [List.drop_succ_cons, List.drop_zero]
    show wpList _ _ _ _ { tmps := List.toArray (.slice (some ⟨b, o, none⟩) n c :: u1 :: u2 :: u3 :: u4 :: .int .i64 (q : Int) :: u6 :: u7 :: u8 :: u9 :: u10 :: u11 :: u12 :: u13 :: u14 :: u15 :: u16 :: u17 :: u18 :: u19 :: u20 :: f 21 :: f 22 :: f 23 :: f 24 :: f 25 :: f 26 :: f 27 :: f 28 :: f 29 :: f 30 :: f 31 :: f 32 :: f 33 :: f 34 :: u35 :: u36 :: u37 :: u38 :: u39 :: u40 :: u41 :: u42 :: u43 :: u44 :: u45 :: u46 :: u47 :: u48 :: u49 :: u50 :: u51 :: u52 :: u53 :: u54 :: u55 :: u56 :: u57 :: u58 :: u59 :: u60 :: u61 :: u62 :: u63 :: u64 :: u65 :: u66 :: u67 :: u68 :: u69 :: u70 :: u71 :: u72 :: u73 :: u74 :: u75 :: u76 :: u77 :: u78 :: u79 :: u80 :: u81 :: u82 :: u83 :: u84 :: u85 :: u86 :: u87 :: u88 :: u89 :: []), defers := [] } w5
    go_wp2_with fail
    rw [e34]
    exact HQ.out _ _ _ _ _ _ _ _ _ _ _ _ _ _ _ HB5.out
noncomputable def code_grg10 : Code := ((Tryz.f7.body.getD .skip |> regionOf5 10).getD .skip)
set_option maxRecDepth 100000 in
set_option maxHeartbeats 8000000 in
theorem rg10 (Q : Exit → Act → World → Prop) {wr : World} {b o n c q : Nat} {d : Nat → Int} (hq0 : (0 : Int) ≤ q) (hq1 : (q : Int) + 8 ≤ n) (hq2 : (q : Int) ≤ 1000000000) (H8 : Hid (∀ j, j < 8 → wr.cell? ⟨b, o + (q + j), none⟩ = some (.int .u8 (d j)))) (HD : Hid (∀ j, 0 ≤ d j ∧ d j ≤ 255)) {u1 u2 u3 u4 u6 u7 u8 u9 u10 u11 u12 u13 u14 u15 u16 u17 u18 u19 u20 u21 u22 u23 u24 u25 u26 u27 u28 u29 u30 u31 u32 u33 u34 u35 u36 u37 u38 u39 u40 u41 u42 u43 u44 u45 u46 u47 u48 u49 u50 u51 u52 u53 u54 u55 u56 u57 u58 u59 u60 u61 u62 u63 u64 u65 u66 u67 u68 u69 u70 u71 u72 u73 u74 u75 u76 u77 u78 u79 u80 u81 u82 u83 u84 u85 u86 u87 u88 u89 : Value} (hQ : ∀ (z35 z36 z37 z38 z39 z40 z41 z42 z43 z44 z45 z46 z47 z48 z49 z50 z51 z52 z53 z54 z55 z56 z57 z58 z59 z60 z61 z62 z63 z64 : Value) (w5 : World), But [] wr w5 → Q .normal { tmps := List.toArray (.slice (some ⟨b, o, none⟩) n c :: u1 :: u2 :: u3 :: u4 :: .int .i64 (q : Int) :: u6 :: .int .u32 (d 4 + d 5 * 256 + d 6 * 65536 + d 7 * 16777216) :: u8 :: u9 :: u10 :: u11 :: u12 :: u13 :: u14 :: u15 :: u16 :: u17 :: u18 :: u19 :: u20 :: u21 :: u22 :: u23 :: u24 :: u25 :: u26 :: u27 :: u28 :: u29 :: u30 :: u31 :: u32 :: u33 :: u34 :: z35 :: z36 :: z37 :: z38 :: z39 :: z40 :: z41 :: z42 :: z43 :: z44 :: z45 :: z46 :: z47 :: z48 :: z49 :: z50 :: z51 :: z52 :: z53 :: z54 :: z55 :: z56 :: z57 :: z58 :: z59 :: z60 :: z61 :: z62 :: z63 :: z64 :: u65 :: u66 :: u67 :: u68 :: u69 :: u70 :: u71 :: u72 :: u73 :: u74 :: u75 :: u76 :: u77 :: u78 :: u79 :: u80 :: u81 :: u82 :: u83 :: u84 :: u85 :: u86 :: u87 :: u88 :: u89 :: []), defers := [] } w5) :
    Code.wp Tryz.prog code_grg10 Q { tmps := List.toArray (.slice (some ⟨b, o, none⟩) n c :: u1 :: u2 :: u3 :: u4 :: .int .i64 (q : Int) :: u6 :: u7 :: u8 :: u9 :: u10 :: u11 :: u12 :: u13 :: u14 :: u15 :: u16 :: u17 :: u18 :: u19 :: u20 :: u21 :: u22 :: u23 :: u24 :: u25 :: u26 :: u27 :: u28 :: u29 :: u30 :: u31 :: u32 :: u33 :: u34 :: u35 :: u36 :: u37 :: u38 :: u39 :: u40 :: u41 :: u42 :: u43 :: u44 :: u45 :: u46 :: u47 :: u48 :: u49 :: u50 :: u51 :: u52 :: u53 :: u54 :: u55 :: u56 :: u57 :: u58 :: u59 :: u60 :: u61 :: u62 :: u63 :: u64 :: u65 :: u66 :: u67 :: u68 :: u69 :: u70 :: u71 :: u72 :: u73 :: u74 :: u75 :: u76 :: u77 :: u78 :: u79 :: u80 :: u81 :: u82 :: u83 :: u84 :: u85 :: u86 :: u87 :: u88 :: u89 :: []), defers := [] } wr := by
  have HQ := Lib.hid hQ
  clear hQ
  conv => arg 2; whnf
  refine wp_region_flowS 30 (by decide) (by kernel_rfl) (But []) (fun _ _ _ h1 h2 => h1.trans h2 (by simp)) (⟨rfl, rfl, rfl, Nat.le_refl _, fun _ _ _ => rfl⟩) (GV [.slice (some ⟨b, o, none⟩) n c, .int .i64 (q : Int), .int .i64 ((q : Int) + 4), .pointer (some ⟨b, o + (q + 4), none⟩), .int .u8 (d 4), .int .u32 (d 4), .slice (some ⟨b, o, none⟩) n c, .int .i64 (q : Int), .int .i64 ((q : Int) + 5), .pointer (some ⟨b, o + (q + 5), none⟩), .int .u8 (d 5), .int .u32 (d 5), .int .u32 (d 5 * 256), .int .u32 (d 4 + d 5 * 256), .slice (some ⟨b, o, none⟩) n c, .int .i64 (q : Int), .int .i64 ((q : Int) + 6), .pointer (some ⟨b, o + (q + 6), none⟩), .int .u8 (d 6), .int .u32 (d 6), .int .u32 (d 6 * 65536), .int .u32 (d 4 + d 5 * 256 + d 6 * 65536), .slice (some ⟨b, o, none⟩) n c, .int .i64 (q : Int), .int .i64 ((q : Int) + 7), .pointer (some ⟨b, o + (q + 7), none⟩), .int .u8 (d 7), .int .u32 (d 7), .int .u32 (d 7 * 16777216), .int .u32 (d 4 + d 5 * 256 + d 6 * 65536 + d 7 * 16777216)]) [[], [], [(1, 36)], [(0, 35), (2, 37)], [(3, 38)], [(4, 39)], [], [], [(7, 42)], [(6, 41), (8, 43)], [(9, 44)], [(10, 45)], [(11, 46)], [(5, 40), (12, 47)], [], [], [(15, 50)], [(14, 49), (16, 51)], [(17, 52)], [(18, 53)], [(19, 54)], [(13, 48), (20, 55)], [], [], [(23, 58)], [(22, 57), (24, 59)], [(25, 60)], [(26, 61)], [(27, 62)], [(21, 56), (28, 63)]] [[(0, .slice (some ⟨b, o, none⟩) n c)], [(5, .int .i64 (q : Int))], [], [], [], [], [(0, .slice (some ⟨b, o, none⟩) n c)], [(5, .int .i64 (q : Int))], [], [], [], [], [], [], [(0, .slice (some ⟨b, o, none⟩) n c)], [(5, .int .i64 (q : Int))], [], [], [], [], [], [], [(0, .slice (some ⟨b, o, none⟩) n c)], [(5, .int .i64 (q : Int))], [], [], [], [], [], []] (by kernel_rfl) (by kernel_rfl) (by kernel_rfl) (by kernel_rfl) ?_ (fun _ _ _ _ _ h _ => h) [none, none, none, none, none, none, none, none, none, none, none, none, none, none, none, none, none, none, none, none, none, none, none, none, none, none, none, none, none, none, none, none, none, none, none, some 35, some 36, some 37, some 38, some 39, some 40, some 41, some 42, some 43, some 44, some 45, some 46, some 47, some 48, some 49, some 50, some 51, some 52, some 53, some 54, some 55, some 56, some 57, some 58, some 59, some 60, some 61, some 62, some 63, some 64, none, none, none, none, none, none, none, none, none, none, none, none, none, none, none, none, none, none, none, none, none, none, none, none, none] (by kernel_rfl) (by rfl) ?_ ?_
  · exact ⟨⟨rfl, trivial⟩, ⟨rfl, trivial⟩, trivial, trivial, trivial, trivial, ⟨rfl, trivial⟩, ⟨rfl, trivial⟩, trivial, trivial, trivial, trivial, trivial, trivial, ⟨rfl, trivial⟩, ⟨rfl, trivial⟩, trivial, trivial, trivial, trivial, trivial, trivial, ⟨rfl, trivial⟩, ⟨rfl, trivial⟩, trivial, trivial, trivial, trivial, trivial, trivial, trivial⟩
  · simp only [List.take_succ_cons, List.take_zero]
    -- 35
    refine ⟨fun a9 w9 hR hk hf => ?_, ?_⟩
    · simp only [KnowF, FreeF, and_true] at hk hf
      have e0 : a9.tmps[0]?.getD undef = .slice (some ⟨b, o, none⟩) n c := freeF_ev hf
      exact flow_on (rfl) (flow_run (v := .slice (some ⟨b, o, none⟩) n c) (by go_simp) (But.refl _ _) (GV.of rfl))
    -- 36
    refine ⟨fun a9 w9 hR hk hf => ?_, ?_⟩
    · simp only [KnowF, FreeF, and_true] at hk hf
      have e5 : a9.tmps[5]?.getD undef = .int .i64 (q : Int) := freeF_ev hf
      exact flow_on (rfl) (flow_run (v := .int .i64 (q : Int)) (by go_simp) (But.refl _ _) (GV.of rfl))
    -- 37
    refine ⟨fun a9 w9 hR hk hf => ?_, ?_⟩
    · simp only [KnowF, FreeF, and_true] at hk hf
      have e36 := (hk).ev (v := .int .i64 (q : Int)) rfl
      have hw : IntKind.i64.wrap ((q : Int) + 4) = (q : Int) + 4 := by rw [IntKind.wrap_i64]; omega
      exact flow_on (rfl) (flow_run (v := .int .i64 ((q : Int) + 4)) (by go_simp) (But.refl _ _) (GV.of rfl))
    -- 38
    refine ⟨fun a9 w9 hR hk hf => ?_, ?_⟩
    · simp only [KnowF, FreeF, and_true] at hk hf
      have e35 := (hk.1).ev (v := .slice (some ⟨b, o, none⟩) n c) rfl
      have e37 := (hk.2).ev (v := .int .i64 ((q : Int) + 4)) rfl
      have g0 : (0 : Int) ≤ (q : Int) + 4 := by omega
      have g1 : (q : Int) + 4 < n := by omega
      have g2 : ((q : Int) + 4).toNat = q + 4 := by omega
      exact flow_on (rfl) (flow_run (v := .pointer (some ⟨b, o + (q + 4), none⟩)) (by go_simp) (But.refl _ _) (GV.of rfl))
    -- 39
    refine ⟨fun a9 w9 hR hk hf => ?_, ?_⟩
    · simp only [KnowF, FreeF, and_true] at hk hf
      have e38 := (hk).ev (v := .pointer (some ⟨b, o + (q + 4), none⟩)) rfl
      have f0 := cell_but hR (H8.out 4 (by decide)) (by simp)
      exact flow_on (rfl) (flow_run (v := .int .u8 (d 4)) (by go_simp) (But.refl _ _) (GV.of rfl))
    -- 40
    refine ⟨fun a9 w9 hR hk hf => ?_, ?_⟩
    · simp only [KnowF, FreeF, and_true] at hk hf
      have e39 := (hk).ev (v := .int .u8 (d 4)) rfl
      have h4 := HD.out 4
      have hw : IntKind.u32.wrap (d 4) = d 4 := by rw [IntKind.wrap_u32]; omega
      exact flow_on (rfl) (flow_run (v := .int .u32 (d 4)) (by go_simp) (But.refl _ _) (GV.of rfl))
    -- 41
    refine ⟨fun a9 w9 hR hk hf => ?_, ?_⟩
    · simp only [KnowF, FreeF, and_true] at hk hf
      have e0 : a9.tmps[0]?.getD undef = .slice (some ⟨b, o, none⟩) n c := freeF_ev hf
      exact flow_on (rfl) (flow_run (v := .slice (some ⟨b, o, none⟩) n c) (by go_simp) (But.refl _ _) (GV.of rfl))
    -- 42
    refine ⟨fun a9 w9 hR hk hf => ?_, ?_⟩
    · simp only [KnowF, FreeF, and_true] at hk hf
      have e5 : a9.tmps[5]?.getD undef = .int .i64 (q : Int) := freeF_ev hf
      exact flow_on (rfl) (flow_run (v := .int .i64 (q : Int)) (by go_simp) (But.refl _ _) (GV.of rfl))
    -- 43
    refine ⟨fun a9 w9 hR hk hf => ?_, ?_⟩
    · simp only [KnowF, FreeF, and_true] at hk hf
      have e42 := (hk).ev (v := .int .i64 (q : Int)) rfl
      have hw : IntKind.i64.wrap ((q : Int) + 5) = (q : Int) + 5 := by rw [IntKind.wrap_i64]; omega
      exact flow_on (rfl) (flow_run (v := .int .i64 ((q : Int) + 5)) (by go_simp) (But.refl _ _) (GV.of rfl))
    -- 44
    refine ⟨fun a9 w9 hR hk hf => ?_, ?_⟩
    · simp only [KnowF, FreeF, and_true] at hk hf
      have e41 := (hk.1).ev (v := .slice (some ⟨b, o, none⟩) n c) rfl
      have e43 := (hk.2).ev (v := .int .i64 ((q : Int) + 5)) rfl
      have g0 : (0 : Int) ≤ (q : Int) + 5 := by omega
      have g1 : (q : Int) + 5 < n := by omega
      have g2 : ((q : Int) + 5).toNat = q + 5 := by omega
      exact flow_on (rfl) (flow_run (v := .pointer (some ⟨b, o + (q + 5), none⟩)) (by go_simp) (But.refl _ _) (GV.of rfl))
    -- 45
    refine ⟨fun a9 w9 hR hk hf => ?_, ?_⟩
    · simp only [KnowF, FreeF, and_true] at hk hf
      have e44 := (hk).ev (v := .pointer (some ⟨b, o + (q + 5), none⟩)) rfl
      have f0 := cell_but hR (H8.out 5 (by decide)) (by simp)
      exact flow_on (rfl) (flow_run (v := .int .u8 (d 5)) (by go_simp) (But.refl _ _) (GV.of rfl))
    -- 46
    refine ⟨fun a9 w9 hR hk hf => ?_, ?_⟩
    · simp only [KnowF, FreeF, and_true] at hk hf
      have e45 := (hk).ev (v := .int .u8 (d 5)) rfl
      have h5 := HD.out 5
      have hw : IntKind.u32.wrap (d 5) = d 5 := by rw [IntKind.wrap_u32]; omega
      exact flow_on (rfl) (flow_run (v := .int .u32 (d 5)) (by go_simp) (But.refl _ _) (GV.of rfl))
    -- 47
    refine ⟨fun a9 w9 hR hk hf => ?_, ?_⟩
    · simp only [KnowF, FreeF, and_true] at hk hf
      have e46 := (hk).ev (v := .int .u32 (d 5)) rfl
      have h5 := HD.out 5
      have hw : IntKind.u32.wrap (d 5 * 256) = d 5 * 256 := by rw [IntKind.wrap_u32]; omega
      exact flow_on (rfl) (flow_run (v := .int .u32 (d 5 * 256)) (by go_simp) (But.refl _ _) (GV.of rfl))
    -- 48
    refine ⟨fun a9 w9 hR hk hf => ?_, ?_⟩
    · simp only [KnowF, FreeF, and_true] at hk hf
      have e40 := (hk.1).ev (v := .int .u32 (d 4)) rfl
      have e47 := (hk.2).ev (v := .int .u32 (d 5 * 256)) rfl
      have h4 := HD.out 4
      have h5 := HD.out 5
      have hw : IntKind.u32.wrap (d 4 + d 5 * 256) = d 4 + d 5 * 256 := by rw [IntKind.wrap_u32]; omega
      exact flow_on (rfl) (flow_run (v := .int .u32 (d 4 + d 5 * 256)) (by go_simp) (But.refl _ _) (GV.of rfl))
    -- 49
    refine ⟨fun a9 w9 hR hk hf => ?_, ?_⟩
    · simp only [KnowF, FreeF, and_true] at hk hf
      have e0 : a9.tmps[0]?.getD undef = .slice (some ⟨b, o, none⟩) n c := freeF_ev hf
      exact flow_on (rfl) (flow_run (v := .slice (some ⟨b, o, none⟩) n c) (by go_simp) (But.refl _ _) (GV.of rfl))
    -- 50
    refine ⟨fun a9 w9 hR hk hf => ?_, ?_⟩
    · simp only [KnowF, FreeF, and_true] at hk hf
      have e5 : a9.tmps[5]?.getD undef = .int .i64 (q : Int) := freeF_ev hf
      exact flow_on (rfl) (flow_run (v := .int .i64 (q : Int)) (by go_simp) (But.refl _ _) (GV.of rfl))
    -- 51
    refine ⟨fun a9 w9 hR hk hf => ?_, ?_⟩
    · simp only [KnowF, FreeF, and_true] at hk hf
      have e50 := (hk).ev (v := .int .i64 (q : Int)) rfl
      have hw : IntKind.i64.wrap ((q : Int) + 6) = (q : Int) + 6 := by rw [IntKind.wrap_i64]; omega
      exact flow_on (rfl) (flow_run (v := .int .i64 ((q : Int) + 6)) (by go_simp) (But.refl _ _) (GV.of rfl))
    -- 52
    refine ⟨fun a9 w9 hR hk hf => ?_, ?_⟩
    · simp only [KnowF, FreeF, and_true] at hk hf
      have e49 := (hk.1).ev (v := .slice (some ⟨b, o, none⟩) n c) rfl
      have e51 := (hk.2).ev (v := .int .i64 ((q : Int) + 6)) rfl
      have g0 : (0 : Int) ≤ (q : Int) + 6 := by omega
      have g1 : (q : Int) + 6 < n := by omega
      have g2 : ((q : Int) + 6).toNat = q + 6 := by omega
      exact flow_on (rfl) (flow_run (v := .pointer (some ⟨b, o + (q + 6), none⟩)) (by go_simp) (But.refl _ _) (GV.of rfl))
    -- 53
    refine ⟨fun a9 w9 hR hk hf => ?_, ?_⟩
    · simp only [KnowF, FreeF, and_true] at hk hf
      have e52 := (hk).ev (v := .pointer (some ⟨b, o + (q + 6), none⟩)) rfl
      have f0 := cell_but hR (H8.out 6 (by decide)) (by simp)
      exact flow_on (rfl) (flow_run (v := .int .u8 (d 6)) (by go_simp) (But.refl _ _) (GV.of rfl))
    -- 54
    refine ⟨fun a9 w9 hR hk hf => ?_, ?_⟩
    · simp only [KnowF, FreeF, and_true] at hk hf
      have e53 := (hk).ev (v := .int .u8 (d 6)) rfl
      have h6 := HD.out 6
      have hw : IntKind.u32.wrap (d 6) = d 6 := by rw [IntKind.wrap_u32]; omega
      exact flow_on (rfl) (flow_run (v := .int .u32 (d 6)) (by go_simp) (But.refl _ _) (GV.of rfl))
    -- 55
    refine ⟨fun a9 w9 hR hk hf => ?_, ?_⟩
    · simp only [KnowF, FreeF, and_true] at hk hf
      have e54 := (hk).ev (v := .int .u32 (d 6)) rfl
      have h6 := HD.out 6
      have hw : IntKind.u32.wrap (d 6 * 65536) = d 6 * 65536 := by rw [IntKind.wrap_u32]; omega
      exact flow_on (rfl) (flow_run (v := .int .u32 (d 6 * 65536)) (by go_simp) (But.refl _ _) (GV.of rfl))
    -- 56
    refine ⟨fun a9 w9 hR hk hf => ?_, ?_⟩
    · simp only [KnowF, FreeF, and_true] at hk hf
      have e48 := (hk.1).ev (v := .int .u32 (d 4 + d 5 * 256)) rfl
      have e55 := (hk.2).ev (v := .int .u32 (d 6 * 65536)) rfl
      have h4 := HD.out 4
      have h5 := HD.out 5
      have h6 := HD.out 6
      have hw : IntKind.u32.wrap (d 4 + d 5 * 256 + d 6 * 65536) = d 4 + d 5 * 256 + d 6 * 65536 := by rw [IntKind.wrap_u32]; omega
      exact flow_on (rfl) (flow_run (v := .int .u32 (d 4 + d 5 * 256 + d 6 * 65536)) (by go_simp) (But.refl _ _) (GV.of rfl))
    -- 57
    refine ⟨fun a9 w9 hR hk hf => ?_, ?_⟩
    · simp only [KnowF, FreeF, and_true] at hk hf
      have e0 : a9.tmps[0]?.getD undef = .slice (some ⟨b, o, none⟩) n c := freeF_ev hf
      exact flow_on (rfl) (flow_run (v := .slice (some ⟨b, o, none⟩) n c) (by go_simp) (But.refl _ _) (GV.of rfl))
    -- 58
    refine ⟨fun a9 w9 hR hk hf => ?_, ?_⟩
    · simp only [KnowF, FreeF, and_true] at hk hf
      have e5 : a9.tmps[5]?.getD undef = .int .i64 (q : Int) := freeF_ev hf
      exact flow_on (rfl) (flow_run (v := .int .i64 (q : Int)) (by go_simp) (But.refl _ _) (GV.of rfl))
    -- 59
    refine ⟨fun a9 w9 hR hk hf => ?_, ?_⟩
    · simp only [KnowF, FreeF, and_true] at hk hf
      have e58 := (hk).ev (v := .int .i64 (q : Int)) rfl
      have hw : IntKind.i64.wrap ((q : Int) + 7) = (q : Int) + 7 := by rw [IntKind.wrap_i64]; omega
      exact flow_on (rfl) (flow_run (v := .int .i64 ((q : Int) + 7)) (by go_simp) (But.refl _ _) (GV.of rfl))
    -- 60
    refine ⟨fun a9 w9 hR hk hf => ?_, ?_⟩
    · simp only [KnowF, FreeF, and_true] at hk hf
      have e57 := (hk.1).ev (v := .slice (some ⟨b, o, none⟩) n c) rfl
      have e59 := (hk.2).ev (v := .int .i64 ((q : Int) + 7)) rfl
      have g0 : (0 : Int) ≤ (q : Int) + 7 := by omega
      have g1 : (q : Int) + 7 < n := by omega
      have g2 : ((q : Int) + 7).toNat = q + 7 := by omega
      exact flow_on (rfl) (flow_run (v := .pointer (some ⟨b, o + (q + 7), none⟩)) (by go_simp) (But.refl _ _) (GV.of rfl))
    -- 61
    refine ⟨fun a9 w9 hR hk hf => ?_, ?_⟩
    · simp only [KnowF, FreeF, and_true] at hk hf
      have e60 := (hk).ev (v := .pointer (some ⟨b, o + (q + 7), none⟩)) rfl
      have f0 := cell_but hR (H8.out 7 (by decide)) (by simp)
      exact flow_on (rfl) (flow_run (v := .int .u8 (d 7)) (by go_simp) (But.refl _ _) (GV.of rfl))
    -- 62
    refine ⟨fun a9 w9 hR hk hf => ?_, ?_⟩
    · simp only [KnowF, FreeF, and_true] at hk hf
      have e61 := (hk).ev (v := .int .u8 (d 7)) rfl
      have h7 := HD.out 7
      have hw : IntKind.u32.wrap (d 7) = d 7 := by rw [IntKind.wrap_u32]; omega
      exact flow_on (rfl) (flow_run (v := .int .u32 (d 7)) (by go_simp) (But.refl _ _) (GV.of rfl))
    -- 63
    refine ⟨fun a9 w9 hR hk hf => ?_, ?_⟩
    · simp only [KnowF, FreeF, and_true] at hk hf
      have e62 := (hk).ev (v := .int .u32 (d 7)) rfl
      have h7 := HD.out 7
      have hw : IntKind.u32.wrap (d 7 * 16777216) = d 7 * 16777216 := by rw [IntKind.wrap_u32]; omega
      exact flow_on (rfl) (flow_run (v := .int .u32 (d 7 * 16777216)) (by go_simp) (But.refl _ _) (GV.of rfl))
    -- 64
    refine ⟨fun a9 w9 hR hk hf => ?_, ?_⟩
    · simp only [KnowF, FreeF, and_true] at hk hf
      have e56 := (hk.1).ev (v := .int .u32 (d 4 + d 5 * 256 + d 6 * 65536)) rfl
      have e63 := (hk.2).ev (v := .int .u32 (d 7 * 16777216)) rfl
      have h4 := HD.out 4
      have h5 := HD.out 5
      have h6 := HD.out 6
      have h7 := HD.out 7
      have hw : IntKind.u32.wrap (d 4 + d 5 * 256 + d 6 * 65536 + d 7 * 16777216) = d 4 + d 5 * 256 + d 6 * 65536 + d 7 * 16777216 := by rw [IntKind.wrap_u32]; omega
      exact flow_on (rfl) (flow_run (v := .int .u32 (d 4 + d 5 * 256 + d 6 * 65536 + d 7 * 16777216)) (by go_simp) (But.refl _ _) (GV.of rfl))
    exact trivial
  · intro f w5 hb5 hG
    have e64 : f 64 = .int .u32 (d 4 + d 5 * 256 + d 6 * 65536 + d 7 * 16777216) := hG 29 _ 64 (by decide) rfl rfl _ rfl
    have HB5 := Lib.hid hb5
    clear hG hb5
    simp only [List.drop_succ_cons, List.drop_zero]
    show wpList _ _ _ _ { tmps := List.toArray (.slice (some ⟨b, o, none⟩) n c :: u1 :: u2 :: u3 :: u4 :: .int .i64 (q : Int) :: u6 :: u7 :: u8 :: u9 :: u10 :: u11 :: u12 :: u13 :: u14 :: u15 :: u16 :: u17 :: u18 :: u19 :: u20 :: u21 :: u22 :: u23 :: u24 :: u25 :: u26 :: u27 :: u28 :: u29 :: u30 :: u31 :: u32 :: u33 :: u34 :: f 35 :: f 36 :: f 37 :: f 38 :: f 39 :: f 40 :: f 41 :: f 42 :: f 43 :: f 44 :: f 45 :: f 46 :: f 47 :: f 48 :: f 49 :: f 50 :: f 51 :: f 52 :: f 53 :: f 54 :: f 55 :: f 56 :: f 57 :: f 58 :: f 59 :: f 60 :: f 61 :: f 62 :: f 63 :: f 64 :: u65 :: u66 :: u67 :: u68 :: u69 :: u70 :: u71 :: u72 :: u73 :: u74 :: u75 :: u76 :: u77 :: u78 :: u79 :: u80 :: u81 :: u82 :: u83 :: u84 :: u85 :: u86 :: u87 :: u88 :: u89 :: []), defers := [] } w5
    go_wp2_with fail
    rw [e64]
    exact HQ.out _ _ _ _ _ _ _ _ _ _ _ _ _ _ _ _ _ _ _ _ _ _ _ _ _ _ _ _ _ _ _ HB5.out
def GC (N : Value → World → Prop) (vals : List Value) (i : Nat) (v : Value) (w : World) : Prop := (i = 22 → N v w) ∧ GV vals i v w
def LaidI (cs : Array Value) (v : Value) (w : World) : Prop := ∃ g, v = .slice (some ⟨g, 0, none⟩) 1 1 ∧ w.heap[g]? = some (.cells cs 27)
theorem LaidI.but {cs : Array Value} {v : Value} {w w' : World} (h : LaidI cs v w) (hb : But [] w w') : LaidI cs v w' := by
  obtain ⟨g, e, h⟩ := h
  exact ⟨g, e, hb.heap h (by simp)⟩
noncomputable def code_grg11 : Code := ((Tryz.f7.body.getD .skip |> regionOf5 11).getD .skip)
set_option maxRecDepth 100000 in
set_option maxHeartbeats 8000000 in
theorem rg11 (Q : Exit → Act → World → Prop) {wr : World} {b o n c q k co : Nat} {ao : Option Addr} {d : Nat → Int} (hq0 : (0 : Int) ≤ q) (hq1 : (q : Int) + 8 ≤ n) (hq2 : (q : Int) ≤ 1000000000) (H8 : Hid (∀ j, j < 8 → wr.cell? ⟨b, o + (q + j), none⟩ = some (.int .u8 (d j)))) (HD : Hid (∀ j, 0 ≤ d j ∧ d j ≤ 255)) (l : List Ins) (hl : l.length = k) (hk : k ≤ 1000000) (HR : Hid (OwnI wr (.slice ao k co) l)) {u1 u2 u3 u8 u9 u10 u11 u12 u13 u14 u15 u16 u17 u18 u19 u20 u21 u22 u23 u24 u25 u26 u27 u28 u29 u30 u31 u32 u33 u34 u35 u36 u37 u38 u39 u40 u41 u42 u43 u44 u45 u46 u47 u48 u49 u50 u51 u52 u53 u54 u55 u56 u57 u58 u59 u60 u61 u62 u63 u64 u65 u66 u67 u68 u69 u70 u71 u72 u73 u74 u75 u76 u77 u78 u79 u80 u81 u82 u83 u84 u85 u86 u87 u88 u89 : Value} (hQ : ∀ (v4 z88 : Value) (w4 : World) (z65 z66 z67 z68 z69 z70 z71 z72 z73 z74 z75 z76 z77 z78 z79 z80 z81 z82 z83 z84 z85 z86 z87 : Value) (w5 : World), But [] wr w4 → AppI w4 w5 (.slice ao k co) v4 l [decI d] → Q .normal { tmps := List.toArray (.slice (some ⟨b, o, none⟩) n c :: u1 :: u2 :: u3 :: v4 :: .int .i64 (q : Int) :: .int .u16 (d 2 + d 3 * 256) :: .int .u32 (d 4 + d 5 * 256 + d 6 * 65536 + d 7 * 16777216) :: u8 :: u9 :: u10 :: u11 :: u12 :: u13 :: u14 :: u15 :: u16 :: u17 :: u18 :: u19 :: u20 :: u21 :: u22 :: u23 :: u24 :: u25 :: u26 :: u27 :: u28 :: u29 :: u30 :: u31 :: u32 :: u33 :: u34 :: u35 :: u36 :: u37 :: u38 :: u39 :: u40 :: u41 :: u42 :: u43 :: u44 :: u45 :: u46 :: u47 :: u48 :: u49 :: u50 :: u51 :: u52 :: u53 :: u54 :: u55 :: u56 :: u57 :: u58 :: u59 :: u60 :: u61 :: u62 :: u63 :: u64 :: z65 :: z66 :: z67 :: z68 :: z69 :: z70 :: z71 :: z72 :: z73 :: z74 :: z75 :: z76 :: z77 :: z78 :: z79 :: z80 :: z81 :: z82 :: z83 :: z84 :: z85 :: z86 :: z87 :: z88 :: u89 :: []), defers := [] } w5) :
    Code.wp Tryz.prog code_grg11 Q { tmps := List.toArray (.slice (some ⟨b, o, none⟩) n c :: u1 :: u2 :: u3 :: .slice ao k co :: .int .i64 (q : Int) :: .int .u16 (d 2 + d 3 * 256) :: .int .u32 (d 4 + d 5 * 256 + d 6 * 65536 + d 7 * 16777216) :: u8 :: u9 :: u10 :: u11 :: u12 :: u13 :: u14 :: u15 :: u16 :: u17 :: u18 :: u19 :: u20 :: u21 :: u22 :: u23 :: u24 :: u25 :: u26 :: u27 :: u28 :: u29 :: u30 :: u31 :: u32 :: u33 :: u34 :: u35 :: u36 :: u37 :: u38 :: u39 :: u40 :: u41 :: u42 :: u43 :: u44 :: u45 :: u46 :: u47 :: u48 :: u49 :: u50 :: u51 :: u52 :: u53 :: u54 :: u55 :: u56 :: u57 :: u58 :: u59 :: u60 :: u61 :: u62 :: u63 :: u64 :: u65 :: u66 :: u67 :: u68 :: u69 :: u70 :: u71 :: u72 :: u73 :: u74 :: u75 :: u76 :: u77 :: u78 :: u79 :: u80 :: u81 :: u82 :: u83 :: u84 :: u85 :: u86 :: u87 :: u88 :: u89 :: []), defers := [] } wr := by
  have HQ := Lib.hid hQ
  clear hQ
  have HOFF : Hid (IntKind.i16.wrap (d 2 + d 3 * 256) = IntKind.i16.wrap (d 3 * 256 + d 2)) := Lib.hid (by rw [Int.add_comm])
  have HIMM : Hid (IntKind.i32.wrap (d 4 + d 5 * 256 + d 6 * 65536 + d 7 * 16777216) = IntKind.i32.wrap (((d 7 * 256 + d 6) * 256 + d 5) * 256 + d 4)) := Lib.hid (by congr 1; omega)
  obtain ⟨i0, hi, hz0, hz1, hz2⟩ := info_parts (show (Tryz.prog.info? 27).map (fun i => (i.zero, i.size, i.bytes)) = some (some (.agg #[.int .u8 0, .int .u8 0, .int .u8 0, .int .i16 0, .int .i32 0]), 5, 12) by kernel_rfl)
  conv => arg 2; whnf
  refine wp_region_flowS 23 (by decide) (by kernel_rfl) (But []) (fun _ _ _ h1 h2 => h1.trans h2 (by simp)) (⟨rfl, rfl, rfl, Nat.le_refl _, fun _ _ _ => rfl⟩) (GC (LaidI #[.int .u8 (d 0), .int .u8 (d 1 % 16), .int .u8 (d 1 / 16), .int .i16 (IntKind.i16.wrap (d 3 * 256 + d 2)), .int .i32 (IntKind.i32.wrap (((d 7 * 256 + d 6) * 256 + d 5) * 256 + d 4))]) [.slice ao k co, .slice (some ⟨b, o, none⟩) n c, .int .i64 (q : Int), .pointer (some ⟨b, o + q, none⟩), .int .u8 (d 0), .slice (some ⟨b, o, none⟩) n c, .int .i64 (q : Int), .int .i64 ((q : Int) + 1), .pointer (some ⟨b, o + (q + 1), none⟩), .int .u8 (d 1), .int .u8 (d 1 % 16), .slice (some ⟨b, o, none⟩) n c, .int .i64 (q : Int), .int .i64 ((q : Int) + 1), .pointer (some ⟨b, o + (q + 1), none⟩), .int .u8 (d 1), .int .u8 (d 1 / 16), .int .u16 (d 2 + d 3 * 256), .int .i16 (IntKind.i16.wrap (d 3 * 256 + d 2)), .int .u32 (d 4 + d 5 * 256 + d 6 * 65536 + d 7 * 16777216), .int .i32 (IntKind.i32.wrap (((d 7 * 256 + d 6) * 256 + d 5) * 256 + d 4)), .agg #[.int .u8 (d 0), .int .u8 (d 1 % 16), .int .u8 (d 1 / 16), .int .i16 (IntKind.i16.wrap (d 3 * 256 + d 2)), .int .i32 (IntKind.i32.wrap (((d 7 * 256 + d 6) * 256 + d 5) * 256 + d 4))]]) [[], [], [], [(1, 66), (2, 67)], [(3, 68)], [], [], [(6, 71)], [(5, 70), (7, 72)], [(8, 73)], [(9, 74)], [], [], [(12, 77)], [(11, 76), (13, 78)], [(14, 79)], [(15, 80)], [], [(17, 82)], [], [(19, 84)], [(4, 69), (10, 75), (16, 81), (18, 83), (20, 85)], [(21, 86)]] [[(4, .slice ao k co)], [(0, .slice (some ⟨b, o, none⟩) n c)], [(5, .int .i64 (q : Int))], [], [], [(0, .slice (some ⟨b, o, none⟩) n c)], [(5, .int .i64 (q : Int))], [], [], [], [], [(0, .slice (some ⟨b, o, none⟩) n c)], [(5, .int .i64 (q : Int))], [], [], [], [], [(6, .int .u16 (d 2 + d 3 * 256))], [], [(7, .int .u32 (d 4 + d 5 * 256 + d 6 * 65536 + d 7 * 16777216))], [], [], []] (by kernel_rfl) (by kernel_rfl) (by kernel_rfl) (by kernel_rfl) ?_ (fun _ _ _ _ _ h hb => ⟨fun e => (h.1 e).but hb, h.2⟩) [none, none, none, none, none, none, none, none, none, none, none, none, none, none, none, none, none, none, none, none, none, none, none, none, none, none, none, none, none, none, none, none, none, none, none, none, none, none, none, none, none, none, none, none, none, none, none, none, none, none, none, none, none, none, none, none, none, none, none, none, none, none, none, none, none, some 65, some 66, some 67, some 68, some 69, some 70, some 71, some 72, some 73, some 74, some 75, some 76, some 77, some 78, some 79, some 80, some 81, some 82, some 83, some 84, some 85, some 86, some 87, none, none] (by kernel_rfl) (by rfl) ?_ ?_
  · exact ⟨⟨rfl, trivial⟩, ⟨rfl, trivial⟩, ⟨rfl, trivial⟩, trivial, trivial, ⟨rfl, trivial⟩, ⟨rfl, trivial⟩, trivial, trivial, trivial, trivial, ⟨rfl, trivial⟩, ⟨rfl, trivial⟩, trivial, trivial, trivial, trivial, ⟨rfl, trivial⟩, trivial, ⟨rfl, trivial⟩, trivial, trivial, trivial, trivial⟩
  · simp only [List.take_succ_cons, List.take_zero]
    -- 65
    refine ⟨fun a9 w9 hR hk hf => ?_, ?_⟩
    · simp only [KnowF, FreeF, and_true] at hk hf
      have e4 : a9.tmps[4]?.getD undef = .slice ao k co := freeF_ev hf
      exact flow_on (rfl) (flow_run (v := .slice ao k co) (by go_simp) (But.refl _ _) (⟨fun h => absurd h (by decide), GV.of rfl⟩))
    -- 66
    refine ⟨fun a9 w9 hR hk hf => ?_, ?_⟩
    · simp only [KnowF, FreeF, and_true] at hk hf
      have e0 : a9.tmps[0]?.getD undef = .slice (some ⟨b, o, none⟩) n c := freeF_ev hf
      exact flow_on (rfl) (flow_run (v := .slice (some ⟨b, o, none⟩) n c) (by go_simp) (But.refl _ _) (⟨fun h => absurd h (by decide), GV.of rfl⟩))
    -- 67
    refine ⟨fun a9 w9 hR hk hf => ?_, ?_⟩
    · simp only [KnowF, FreeF, and_true] at hk hf
      have e5 : a9.tmps[5]?.getD undef = .int .i64 (q : Int) := freeF_ev hf
      exact flow_on (rfl) (flow_run (v := .int .i64 (q : Int)) (by go_simp) (But.refl _ _) (⟨fun h => absurd h (by decide), GV.of rfl⟩))
    -- 68
    refine ⟨fun a9 w9 hR hk hf => ?_, ?_⟩
    · simp only [KnowF, FreeF, and_true] at hk hf
      have e66 := (hk.1).2.ev (v := .slice (some ⟨b, o, none⟩) n c) rfl
      have e67 := (hk.2).2.ev (v := .int .i64 (q : Int)) rfl
      have g1 : (q : Int) < n := by omega
      exact flow_on (rfl) (flow_run (v := .pointer (some ⟨b, o + q, none⟩)) (by go_simp) (But.refl _ _) ⟨fun h => absurd h (by decide), GV.of rfl⟩)
    -- 69
    refine ⟨fun a9 w9 hR hk hf => ?_, ?_⟩
    · simp only [KnowF, FreeF, and_true] at hk hf
      have e68 := (hk).2.ev (v := .pointer (some ⟨b, o + q, none⟩)) rfl
      have f0 := cell_but hR (H8.out 0 (by decide)) (by simp)
      simp only [Nat.add_zero] at f0
      exact flow_on (rfl) (flow_run (v := .int .u8 (d 0)) (by go_simp) (But.refl _ _) ⟨fun h => absurd h (by decide), GV.of rfl⟩)
    -- 70
    refine ⟨fun a9 w9 hR hk hf => ?_, ?_⟩
    · simp only [KnowF, FreeF, and_true] at hk hf
      have e0 : a9.tmps[0]?.getD undef = .slice (some ⟨b, o, none⟩) n c := freeF_ev hf
      exact flow_on (rfl) (flow_run (v := .slice (some ⟨b, o, none⟩) n c) (by go_simp) (But.refl _ _) (⟨fun h => absurd h (by decide), GV.of rfl⟩))
    -- 71
    refine ⟨fun a9 w9 hR hk hf => ?_, ?_⟩
    · simp only [KnowF, FreeF, and_true] at hk hf
      have e5 : a9.tmps[5]?.getD undef = .int .i64 (q : Int) := freeF_ev hf
      exact flow_on (rfl) (flow_run (v := .int .i64 (q : Int)) (by go_simp) (But.refl _ _) (⟨fun h => absurd h (by decide), GV.of rfl⟩))
    -- 72
    refine ⟨fun a9 w9 hR hk hf => ?_, ?_⟩
    · simp only [KnowF, FreeF, and_true] at hk hf
      have e71 := (hk).2.ev (v := .int .i64 (q : Int)) rfl
      have hw : IntKind.i64.wrap ((q : Int) + 1) = (q : Int) + 1 := by rw [IntKind.wrap_i64]; omega
      exact flow_on (rfl) (flow_run (v := .int .i64 ((q : Int) + 1)) (by go_simp) (But.refl _ _) ⟨fun h => absurd h (by decide), GV.of rfl⟩)
    -- 73
    refine ⟨fun a9 w9 hR hk hf => ?_, ?_⟩
    · simp only [KnowF, FreeF, and_true] at hk hf
      have e70 := (hk.1).2.ev (v := .slice (some ⟨b, o, none⟩) n c) rfl
      have e72 := (hk.2).2.ev (v := .int .i64 ((q : Int) + 1)) rfl
      have g0 : (0 : Int) ≤ (q : Int) + 1 := by omega
      have g1 : (q : Int) + 1 < n := by omega
      have g2 : ((q : Int) + 1).toNat = q + 1 := by omega
      exact flow_on (rfl) (flow_run (v := .pointer (some ⟨b, o + (q + 1), none⟩)) (by go_simp) (But.refl _ _) ⟨fun h => absurd h (by decide), GV.of rfl⟩)
    -- 74
    refine ⟨fun a9 w9 hR hk hf => ?_, ?_⟩
    · simp only [KnowF, FreeF, and_true] at hk hf
      have e73 := (hk).2.ev (v := .pointer (some ⟨b, o + (q + 1), none⟩)) rfl
      have f0 := cell_but hR (H8.out 1 (by decide)) (by simp)
      exact flow_on (rfl) (flow_run (v := .int .u8 (d 1)) (by go_simp) (But.refl _ _) ⟨fun h => absurd h (by decide), GV.of rfl⟩)
    -- 75
    refine ⟨fun a9 w9 hR hk hf => ?_, ?_⟩
    · simp only [KnowF, FreeF, and_true] at hk hf
      have e74 := (hk).2.ev (v := .int .u8 (d 1)) rfl
      have h1 := HD.out 1
      have hw : (d 1).tmod 16 = d 1 % 16 := by rw [Int.tmod_eq_emod_of_nonneg h1.1]
      exact flow_on (rfl) (flow_run (v := .int .u8 (d 1 % 16)) (by go_simp) (But.refl _ _) ⟨fun h => absurd h (by decide), GV.of rfl⟩)
    -- 76
    refine ⟨fun a9 w9 hR hk hf => ?_, ?_⟩
    · simp only [KnowF, FreeF, and_true] at hk hf
      have e0 : a9.tmps[0]?.getD undef = .slice (some ⟨b, o, none⟩) n c := freeF_ev hf
      exact flow_on (rfl) (flow_run (v := .slice (some ⟨b, o, none⟩) n c) (by go_simp) (But.refl _ _) (⟨fun h => absurd h (by decide), GV.of rfl⟩))
    -- 77
    refine ⟨fun a9 w9 hR hk hf => ?_, ?_⟩
    · simp only [KnowF, FreeF, and_true] at hk hf
      have e5 : a9.tmps[5]?.getD undef = .int .i64 (q : Int) := freeF_ev hf
      exact flow_on (rfl) (flow_run (v := .int .i64 (q : Int)) (by go_simp) (But.refl _ _) (⟨fun h => absurd h (by decide), GV.of rfl⟩))
    -- 78
    refine ⟨fun a9 w9 hR hk hf => ?_, ?_⟩
    · simp only [KnowF, FreeF, and_true] at hk hf
      have e77 := (hk).2.ev (v := .int .i64 (q : Int)) rfl
      have hw : IntKind.i64.wrap ((q : Int) + 1) = (q : Int) + 1 := by rw [IntKind.wrap_i64]; omega
      exact flow_on (rfl) (flow_run (v := .int .i64 ((q : Int) + 1)) (by go_simp) (But.refl _ _) ⟨fun h => absurd h (by decide), GV.of rfl⟩)
    -- 79
    refine ⟨fun a9 w9 hR hk hf => ?_, ?_⟩
    · simp only [KnowF, FreeF, and_true] at hk hf
      have e76 := (hk.1).2.ev (v := .slice (some ⟨b, o, none⟩) n c) rfl
      have e78 := (hk.2).2.ev (v := .int .i64 ((q : Int) + 1)) rfl
      have g0 : (0 : Int) ≤ (q : Int) + 1 := by omega
      have g1 : (q : Int) + 1 < n := by omega
      have g2 : ((q : Int) + 1).toNat = q + 1 := by omega
      exact flow_on (rfl) (flow_run (v := .pointer (some ⟨b, o + (q + 1), none⟩)) (by go_simp) (But.refl _ _) ⟨fun h => absurd h (by decide), GV.of rfl⟩)
    -- 80
    refine ⟨fun a9 w9 hR hk hf => ?_, ?_⟩
    · simp only [KnowF, FreeF, and_true] at hk hf
      have e79 := (hk).2.ev (v := .pointer (some ⟨b, o + (q + 1), none⟩)) rfl
      have f0 := cell_but hR (H8.out 1 (by decide)) (by simp)
      exact flow_on (rfl) (flow_run (v := .int .u8 (d 1)) (by go_simp) (But.refl _ _) ⟨fun h => absurd h (by decide), GV.of rfl⟩)
    -- 81
    refine ⟨fun a9 w9 hR hk hf => ?_, ?_⟩
    · simp only [KnowF, FreeF, and_true] at hk hf
      have e80 := (hk).2.ev (v := .int .u8 (d 1)) rfl
      have h1 := HD.out 1
      have hw : IntKind.u8.wrap ((d 1).tdiv 16) = d 1 / 16 := by rw [Int.tdiv_eq_ediv_of_nonneg h1.1, IntKind.wrap_u8]; omega
      exact flow_on (rfl) (flow_run (v := .int .u8 (d 1 / 16)) (by go_simp) (But.refl _ _) ⟨fun h => absurd h (by decide), GV.of rfl⟩)
    -- 82
    refine ⟨fun a9 w9 hR hk hf => ?_, ?_⟩
    · simp only [KnowF, FreeF, and_true] at hk hf
      have e6 : a9.tmps[6]?.getD undef = .int .u16 (d 2 + d 3 * 256) := freeF_ev hf
      exact flow_on (rfl) (flow_run (v := .int .u16 (d 2 + d 3 * 256)) (by go_simp) (But.refl _ _) (⟨fun h => absurd h (by decide), GV.of rfl⟩))
    -- 83
    refine ⟨fun a9 w9 hR hk hf => ?_, ?_⟩
    · simp only [KnowF, FreeF, and_true] at hk hf
      have e82 := (hk).2.ev (v := .int .u16 (d 2 + d 3 * 256)) rfl
      have ho := HOFF.out
      exact flow_on (rfl) (flow_run (v := .int .i16 (IntKind.i16.wrap (d 3 * 256 + d 2))) (by go_simp) (But.refl _ _) ⟨fun h => absurd h (by decide), GV.of rfl⟩)
    -- 84
    refine ⟨fun a9 w9 hR hk hf => ?_, ?_⟩
    · simp only [KnowF, FreeF, and_true] at hk hf
      have e7 : a9.tmps[7]?.getD undef = .int .u32 (d 4 + d 5 * 256 + d 6 * 65536 + d 7 * 16777216) := freeF_ev hf
      exact flow_on (rfl) (flow_run (v := .int .u32 (d 4 + d 5 * 256 + d 6 * 65536 + d 7 * 16777216)) (by go_simp) (But.refl _ _) (⟨fun h => absurd h (by decide), GV.of rfl⟩))
    -- 85
    refine ⟨fun a9 w9 hR hk hf => ?_, ?_⟩
    · simp only [KnowF, FreeF, and_true] at hk hf
      have e84 := (hk).2.ev (v := .int .u32 (d 4 + d 5 * 256 + d 6 * 65536 + d 7 * 16777216)) rfl
      have ho := HIMM.out
      exact flow_on (rfl) (flow_run (v := .int .i32 (IntKind.i32.wrap (((d 7 * 256 + d 6) * 256 + d 5) * 256 + d 4))) (by go_simp) (But.refl _ _) ⟨fun h => absurd h (by decide), GV.of rfl⟩)
    -- 86
    refine ⟨fun a9 w9 hR hk hf => ?_, ?_⟩
    · simp only [KnowF, FreeF, and_true] at hk hf
      have e69 := (hk.1).2.ev (v := .int .u8 (d 0)) rfl
      have e75 := (hk.2.1).2.ev (v := .int .u8 (d 1 % 16)) rfl
      have e81 := (hk.2.2.1).2.ev (v := .int .u8 (d 1 / 16)) rfl
      have e83 := (hk.2.2.2.1).2.ev (v := .int .i16 (IntKind.i16.wrap (d 3 * 256 + d 2))) rfl
      have e85 := (hk.2.2.2.2).2.ev (v := .int .i32 (IntKind.i32.wrap (((d 7 * 256 + d 6) * 256 + d 5) * 256 + d 4))) rfl
      exact flow_on (rfl) (flow_run (v := .agg #[.int .u8 (d 0), .int .u8 (d 1 % 16), .int .u8 (d 1 / 16), .int .i16 (IntKind.i16.wrap (d 3 * 256 + d 2)), .int .i32 (IntKind.i32.wrap (((d 7 * 256 + d 6) * 256 + d 5) * 256 + d 4))]) (by go_simp) (But.refl _ _) (⟨fun h => absurd h (by decide), GV.of rfl⟩))
    -- 87
    refine ⟨fun a9 w9 hR hk hf => ?_, ?_⟩
    · simp only [KnowF, FreeF, and_true] at hk hf
      have e86 := (hk).2.ev (v := .agg #[.int .u8 (d 0), .int .u8 (d 1 % 16), .int .u8 (d 1 / 16), .int .i16 (IntKind.i16.wrap (d 3 * 256 + d 2)), .int .i32 (IntKind.i32.wrap (((d 7 * 256 + d 6) * 256 + d 5) * 256 + d 4))]) rfl
      exact flow_on (rfl) (flow_run (v := .slice (some ⟨w9.heap.size, 0, none⟩) 1 1) (w' := w9.alloc (.cells #[.int .u8 (d 0), .int .u8 (d 1 % 16), .int .u8 (d 1 / 16), .int .i16 (IntKind.i16.wrap (d 3 * 256 + d 2)), .int .i32 (IntKind.i32.wrap (((d 7 * 256 + d 6) * 256 + d 5) * 256 + d 4))] 27)) (by go_simp) ((But.refl [] w9).alloc _) ⟨fun _ => ⟨w9.heap.size, rfl, al_at _ _⟩, fun u hu => by simp at hu⟩)
    exact trivial
  · intro f w5 hb5 hG
    have e65 : f 65 = .slice ao k co := (hG 0 _ 65 (by decide) rfl rfl).2 _ rfl
    obtain ⟨g, e87, hgc⟩ := (hG 22 _ 87 (by decide) rfl rfl).1 rfl
    have HR5 := Lib.hid (HR.out.but hb5 (by simp))
    have HSRC := Lib.hid (src_ins (P := Tryz.prog) Tryz.underlying28 (n := 1) (l := [decI d]) rfl (show OwnI w5 (.slice (some ⟨g, 0, none⟩) 1 1) [decI d] from .inr ⟨g, 1, _, rfl, hgc, by simp, by unfold maxLen; omega, by simp, fun j u hj => by simpa [Ins.cells, decI] using hj⟩))
    have HB5 := Lib.hid hb5
    clear hG hb5 hgc
    simp only [List.drop_succ_cons, List.drop_zero]
    show wpList _ _ _ _ { tmps := List.toArray (.slice (some ⟨b, o, none⟩) n c :: u1 :: u2 :: u3 :: .slice ao k co :: .int .i64 (q : Int) :: .int .u16 (d 2 + d 3 * 256) :: .int .u32 (d 4 + d 5 * 256 + d 6 * 65536 + d 7 * 16777216) :: u8 :: u9 :: u10 :: u11 :: u12 :: u13 :: u14 :: u15 :: u16 :: u17 :: u18 :: u19 :: u20 :: u21 :: u22 :: u23 :: u24 :: u25 :: u26 :: u27 :: u28 :: u29 :: u30 :: u31 :: u32 :: u33 :: u34 :: u35 :: u36 :: u37 :: u38 :: u39 :: u40 :: u41 :: u42 :: u43 :: u44 :: u45 :: u46 :: u47 :: u48 :: u49 :: u50 :: u51 :: u52 :: u53 :: u54 :: u55 :: u56 :: u57 :: u58 :: u59 :: u60 :: u61 :: u62 :: u63 :: u64 :: f 65 :: f 66 :: f 67 :: f 68 :: f 69 :: f 70 :: f 71 :: f 72 :: f 73 :: f 74 :: f 75 :: f 76 :: f 77 :: f 78 :: f 79 :: f 80 :: f 81 :: f 82 :: f 83 :: f 84 :: f 85 :: f 86 :: f 87 :: u88 :: u89 :: []), defers := [] } w5
    go_wp2_with (at_builtin; refine wpList_append_ins rfl _ _ 28 rfl i0 (.agg #[.int .u8 0, .int .u8 0, .int .u8 0, .int .i16 0, .int .i32 0]) 12 Tryz.underlying28 hi hz0 hz1 hz2 rfl (.slice ao k co) l (by exact e65) HR5.out [decI d] _ (by exact e87) (by rw [hz1]; exact HSRC.out) (by unfold maxLen; simp only [List.length_cons, List.length_nil]; omega) (by simp only [List.length_cons, List.length_nil]; omega) ?_; intro v' w6 hap; have HAP := Lib.hid hap; clear hap)
    exact HQ.out _ _ w5 _ _ _ _ _ _ _ _ _ _ _ _ _ _ _ _ _ _ _ _ _ _ _ _ HB5.out HAP.out
/-- Behind the reference's Get. -/
def RefGetPost (bs : List Int) (w : World) (e : Ending) (w' : World) : Prop :=
  ∃ a n c, e = .returned (.tuple #[.slice a n c, .int .i64 (getErr bs.length)]) ∧ OwnI w' (.slice a n c) (getRow bs) ∧ But [] w w'
theorem OwnI.sees {w : World} {v : Value} {l : List Ins} (h : OwnI w v l) : SeesI w v l := by
  obtain ⟨a, c, rfl⟩ := h.form
  by_cases h0 : l.length = 0
  · obtain rfl : l = [] := List.eq_nil_of_length_eq_zero h0
    exact ⟨a, c, rfl, fun i x hx => by simp at hx⟩
  · obtain ⟨g, rfl⟩ := h.addr (by omega)
    refine seesI_cells rfl (fun j u hj => ?_)
    rcases h with ⟨e, _⟩ | ⟨g', cap, cur, e, h1, _, _, _, h5⟩
    · cases e
    · cases e
      rw [cl_of h1]
      exact h5 j u hj
theorem refGet_more {w w7 w8 : World} {v v4 : Value} {bs : List Int} {k : Nat} (hn : NewIn w v) (hb : But [] w w7) (hap : AppI w7 w8 v v4 (decL bs k) [decI (atI bs k)]) : ∃ a' c', v4 = .slice a' (k + 1) c' ∧ OwnI w8 (.slice a' (k + 1) c') (decL bs (k + 1)) ∧ NewIn w (.slice a' (k + 1) c') ∧ But [] w w8 := by
  obtain ⟨ho, hc⟩ := hap
  rw [← decL_succ] at ho
  obtain ⟨a', c', e⟩ := ho.form
  rw [decL_len] at e
  subst e
  rcases hc with ⟨a2, cap, e1, e2, _, hb2⟩ | ⟨hn2, hb2⟩
  · have hs : (Value.slice a' (k + 1) c').ownBlock = v.ownBlock := by rw [e1, e2]; exact own_same _ _ _ _ _
    exact ⟨a', c', rfl, ho, fun b hb' => hn b (hs ▸ hb'), hb.trans hb2 (fun y hy => .inr (hn y (by simpa using hy)))⟩
  · exact ⟨a', c', rfl, ho, fun b hb' => by rw [hn2] at hb'; cases hb'; exact hb.size, hb.trans hb2 (by simp)⟩
set_option maxRecDepth 100000 in
set_option maxHeartbeats 4000000 in
theorem refGet_c (a : Option Addr) (c : Nat) (bs : List Int) (w : World) (hs : SeesD w a c bs) (hr : ByteL bs) (hl : bs.length ≤ 1000000000) :
    Calls Tryz.prog 7 #[.slice a bs.length c] w (RefGetPost bs w) := by
  have hl0 : (0 : Int) ≤ bs.length := by omega
  by_cases h1 : bs.length ≤ 32768
  · have h1' : ¬ (32768 : Int) < bs.length := by omega
    by_cases h2 : bs.length % 8 = 0
    · obtain ⟨m, hm⟩ : ∃ m, bs.length = 8 * m := ⟨bs.length / 8, by omega⟩
      have hrem : ((bs.length : Int) % 8 == 0) = true := by simp; omega
      have HSD := Lib.hid hs
      have HBY := Lib.hid hr
      have HM := Lib.hid hm
      have HERR : Hid (getErr bs.length = 0) := Lib.hid (by unfold getErr; rw [if_neg (by omega), if_pos h2])
      clear hs hr hm h2
      go_enter Tryz.func7, Tryz.ntmps7
      go_wp2_with fail
      clear hrem
      go_loopw [4, 5] (fun oo ii wr => ∃ (k : Nat) (ao : Option Addr) (co : Nat), k ≤ m ∧ ii = .int .i64 ((8 * k : Nat) : Int) ∧ oo = .slice ao k co ∧ OwnI wr (.slice ao k co) (decL bs k) ∧ NewIn w (.slice ao k co) ∧ But [] w wr) (fun _ ii _ => bs.length - (intOf ii).toNat)
      case atStart => exact ⟨0, none, 0, Nat.zero_le _, rfl, rfl, .inl ⟨rfl, rfl⟩, (fun b hb => by cases hb), But.refl _ _⟩
      case round =>
        obtain ⟨k, ao, co, hk, rfl, rfl, hq, hn, hb⟩ := hrel
        have HQ := Lib.hid hq
        have HB := Lib.hid hb
        have HN := Lib.hid hn
        clear hq hn
        obtain ⟨q, hqk⟩ : ∃ q, q = 8 * k := ⟨_, rfl⟩
        rw [← hqk]
        by_cases hlt : k < m
        · obtain ⟨b, o, hab⟩ : ∃ b o, a = some ⟨b, o, none⟩ := by
            obtain ⟨y, hy⟩ : ∃ y, bs[0]? = some y := ⟨_, List.getElem?_eq_getElem (by have := HM.out; omega)⟩
            obtain ⟨b, o, e, _⟩ := HSD.out.2 0 y hy
            exact ⟨b, o, e⟩
          have H8 : Hid (∀ j, j < 8 → wr.cell? ⟨b, o + (q + j), none⟩ = some (.int .u8 (atI bs k j))) := Lib.hid fun j hj => by
            obtain ⟨y, hy⟩ : ∃ y, bs[8 * k + j]? = some y := ⟨_, List.getElem?_eq_getElem (by have := HM.out; omega)⟩
            obtain ⟨b2, o2, e, hc⟩ := HSD.out.2 _ y hy
            rw [hab] at e
            simp only [Option.some.injEq, Addr.mk.injEq, and_true] at e
            obtain ⟨rfl, rfl⟩ := e
            have h := cell_but hb hc (by simp)
            rw [hqk, h]
            unfold atI
            rw [List.getD_eq_getElem?_getD, hy]
            rfl
          subst hab
          have HD : Hid (∀ j, 0 ≤ atI bs k j ∧ atI bs k j ≤ 255) := Lib.hid (atI_byte HBY.out k)
          have hq0 : (0 : Int) ≤ q := by omega
          have hq1 : (q : Int) + 8 ≤ bs.length := by have := HM.out; omega
          have hq2 : (q : Int) ≤ 1000000000 := by omega
          have hq3 : (q : Int) < bs.length := by omega
          have HQK := Lib.hid hqk
          clear hb hqk
          go_wp2_with fail
          refine rg9 _ hq0 hq1 hq2 H8 HD ?_
          intro z21 z22 z23 z24 z25 z26 z27 z28 z29 z30 z31 z32 z33 z34 w5 hb5
          have H85 : Hid (∀ j, j < 8 → w5.cell? ⟨b, o + (q + j), none⟩ = some (.int .u8 (atI bs k j))) := Lib.hid fun j hj => cell_but hb5 (H8.out j hj) (by simp)
          have HB5 := Lib.hid hb5
          clear hb5
          go_wp2_with fail
          refine rg10 _ hq0 hq1 hq2 H85 HD ?_
          intro z35 z36 z37 z38 z39 z40 z41 z42 z43 z44 z45 z46 z47 z48 z49 z50 z51 z52 z53 z54 z55 z56 z57 z58 z59 z60 z61 z62 z63 z64 w6 hb6
          have H86 : Hid (∀ j, j < 8 → w6.cell? ⟨b, o + (q + j), none⟩ = some (.int .u8 (atI bs k j))) := Lib.hid fun j hj => cell_but hb6 (H85.out j hj) (by simp)
          have HB6 := Lib.hid (HB5.out.trans hb6 (by simp))
          have HQ6 := Lib.hid (HQ.out.but HB6.out (by simp))
          clear hb6
          go_wp2_with fail
          refine rg11 _ hq0 hq1 hq2 H86 HD (decL bs k) (decL_len _ _) (by have := HM.out; omega) HQ6 ?_
          intro v4 z88 w7 z65 z66 z67 z68 z69 z70 z71 z72 z73 z74 z75 z76 z77 z78 z79 z80 z81 z82 z83 z84 z85 z86 z87 w8 hb7 hap
          obtain ⟨a2, c2, rfl, h2⟩ := refGet_more HN.out (HB.out.trans (HB6.out.trans hb7 (by simp)) (by simp)) hap
          have H2 := Lib.hid h2
          clear hb7 hap h2
          go_wp2_with fail
          go_roundw
          case rel => exact ⟨k + 1, a2, c2, by omega, by rw [HQK.out]; go_num, rfl, H2.out.1, H2.out.2.1, H2.out.2.2⟩
          case measure => simp [intOf]; omega
        · obtain rfl : k = m := by omega
          have hql : q = bs.length := by have := HM.out; omega
          subst hql
          have HP : Hid (RefGetPost bs w (.returned (.tuple #[.slice ao k co, .int .i64 0])) wr) := Lib.hid ⟨ao, k, co, by rw [HERR.out], by unfold getRow; rw [if_pos HERR.out, show bs.length / 8 = k by have := HM.out; omega]; exact HQ.out, HB.out⟩
          clear hb hqk
          go_wp2_with fail
          go_ret2
          exact HP.out
    · have hrem : ((bs.length : Int) % 8 == 0) = false := by simp; omega
      have HP : Hid (RefGetPost bs w (.returned (.tuple #[.slice none 0 0, .int .i64 4])) w) := Lib.hid ⟨none, 0, 0, by unfold getErr; rw [if_neg (by omega), if_neg h2], by unfold getRow getErr; rw [if_neg (by omega : ¬ (32768 < bs.length)), if_neg h2, if_neg (by decide)]; exact .inl ⟨rfl, rfl⟩, But.refl _ _⟩
      clear hs hr h2
      go_enter Tryz.func7, Tryz.ntmps7
      go_wp2_with fail
      go_ret2
      exact HP.out
  · have h1' : (32768 : Int) < bs.length := by omega
    have HP : Hid (RefGetPost bs w (.returned (.tuple #[.slice none 0 0, .int .i64 3])) w) := Lib.hid ⟨none, 0, 0, by unfold getErr; rw [if_pos (by omega)], by unfold getRow getErr; rw [if_pos (by omega : 32768 < bs.length), if_neg (by decide)]; exact .inl ⟨rfl, rfl⟩, But.refl _ _⟩
    clear hs hr h1
    go_enter Tryz.func7, Tryz.ntmps7
    go_wp2_with fail
    go_ret2
    exact HP.out
end Go.Proofs.YtddeckkcfcodbaaGreat.M
