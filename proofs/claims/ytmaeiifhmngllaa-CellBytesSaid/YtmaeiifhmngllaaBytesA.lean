/-
  CellBytes' drawn statements (printed by mkcawake.py).
-/
import Derived.Test.YtmaeiifhmngllaaBytesPl
import Derived.Test.YtmaeiifhmngllaaFlowG
namespace Go.Proofs.Ytmaeiifhmngllaa.M
open Go.RowKit Go.Shelf
set_option linter.unusedVariables false
set_option linter.unusedSectionVars false
set_option linter.unusedSimpArgs false
noncomputable def code_cb16 : Code := ((Try.f7.body.getD .skip |> regionOf5 16).getD .skip)
set_option maxRecDepth 100000 in
set_option maxHeartbeats 8000000 in
theorem cb16 (Q : Exit → Act → World → Prop) {wr : World} {b12 i bl c : Nat} {x : Int} {ad : Addr} (H12 : Hid (wr.heap[b12]? = some (.cells #[.int .u8 1, .int .u64 x, .int .i64 0, .int .i64 0] 33))) (HX : Hid (wr.cell? (ad.add i) = some (.int .u8 x))) (HI0 : Hid ((0 : Int) ≤ i)) (HI2 : Hid ((i : Int) < bl)) (HW : Hid (IntKind.u64.wrap x = x)) {u0 u2 u3 u4 u5 u6 u7 u8 u9 u10 u14 u15 u16 u17 u18 u19 u20 u21 u22 u23 u24 u25 u26 u27 u28 u29 u30 u31 u32 u33 u34 u35 u36 u37 u38 u39 u40 u41 u42 u43 u44 u45 u46 u47 u48 u49 u50 u51 u52 u53 u54 u55 u56 u57 u58 u59 u60 u61 u62 u63 u64 u65 u66 u67 u68 u69 u70 u71 u72 u73 u74 u75 u76 u77 u78 u79 u80 u81 u82 u83 u84 u85 u86 u87 u88 u89 u90 u91 u92 u93 u94 u95 u96 u97 u98 u99 u100 u101 u102 u103 u104 u105 u106 u107 u108 u109 u110 u111 u112 u113 u114 u115 u116 u117 u118 u119 u120 u121 : Value} (hQ : ∀ (z72 z73 z74 z75 z76 z77 z78 z79 z80 z81 z82 : Value) (w5 : World), But [] wr w5 → Q .normal { tmps := List.toArray (u0 :: .slice (some ad) bl c :: u2 :: u3 :: u4 :: u5 :: u6 :: u7 :: u8 :: u9 :: u10 :: .int .i64 (i : Int) :: .pointer (some ⟨b12, 0, none⟩) :: .int .i64 0 :: u14 :: u15 :: u16 :: u17 :: u18 :: u19 :: u20 :: u21 :: u22 :: u23 :: u24 :: u25 :: u26 :: u27 :: u28 :: u29 :: u30 :: u31 :: u32 :: u33 :: u34 :: u35 :: u36 :: u37 :: u38 :: u39 :: u40 :: u41 :: u42 :: u43 :: u44 :: u45 :: u46 :: u47 :: u48 :: u49 :: u50 :: u51 :: u52 :: u53 :: u54 :: u55 :: u56 :: u57 :: u58 :: u59 :: u60 :: u61 :: u62 :: u63 :: u64 :: u65 :: u66 :: u67 :: u68 :: u69 :: u70 :: u71 :: z72 :: z73 :: z74 :: z75 :: z76 :: z77 :: z78 :: z79 :: z80 :: z81 :: z82 :: .bool false :: u84 :: u85 :: u86 :: u87 :: u88 :: u89 :: u90 :: u91 :: u92 :: u93 :: u94 :: u95 :: u96 :: u97 :: u98 :: u99 :: u100 :: u101 :: u102 :: u103 :: u104 :: u105 :: u106 :: u107 :: u108 :: u109 :: u110 :: u111 :: u112 :: u113 :: u114 :: u115 :: u116 :: u117 :: u118 :: u119 :: u120 :: u121 :: []), defers := [] } w5) :
    Code.wp Try.prog code_cb16 Q { tmps := List.toArray (u0 :: .slice (some ad) bl c :: u2 :: u3 :: u4 :: u5 :: u6 :: u7 :: u8 :: u9 :: u10 :: .int .i64 (i : Int) :: .pointer (some ⟨b12, 0, none⟩) :: .int .i64 0 :: u14 :: u15 :: u16 :: u17 :: u18 :: u19 :: u20 :: u21 :: u22 :: u23 :: u24 :: u25 :: u26 :: u27 :: u28 :: u29 :: u30 :: u31 :: u32 :: u33 :: u34 :: u35 :: u36 :: u37 :: u38 :: u39 :: u40 :: u41 :: u42 :: u43 :: u44 :: u45 :: u46 :: u47 :: u48 :: u49 :: u50 :: u51 :: u52 :: u53 :: u54 :: u55 :: u56 :: u57 :: u58 :: u59 :: u60 :: u61 :: u62 :: u63 :: u64 :: u65 :: u66 :: u67 :: u68 :: u69 :: u70 :: u71 :: u72 :: u73 :: u74 :: u75 :: u76 :: u77 :: u78 :: u79 :: u80 :: u81 :: u82 :: u83 :: u84 :: u85 :: u86 :: u87 :: u88 :: u89 :: u90 :: u91 :: u92 :: u93 :: u94 :: u95 :: u96 :: u97 :: u98 :: u99 :: u100 :: u101 :: u102 :: u103 :: u104 :: u105 :: u106 :: u107 :: u108 :: u109 :: u110 :: u111 :: u112 :: u113 :: u114 :: u115 :: u116 :: u117 :: u118 :: u119 :: u120 :: u121 :: []), defers := [] } wr := by
  have HQ := Lib.hid hQ
  clear hQ
  conv => arg 2; whnf
  refine wp_region_flowS 11 (by decide) (by kernel_rfl) (But []) (fun _ _ _ h1 h2 => h1.trans h2 (by simp)) (⟨rfl, rfl, rfl, Nat.le_refl _, fun _ _ _ => rfl⟩) (GV [.int .i64 0, .bool false, .bool false, .agg #[.int .u8 1, .int .u64 x, .int .i64 0, .int .i64 0], .slice (some ad) bl c, .int .i64 (i : Int), .pointer (some (ad.add i)), .int .u8 x, .int .u64 x, .agg #[.int .u8 1, .int .u64 x, .int .i64 0, .int .i64 0], .bool false]) [[], [(0, 72)], [(1, 73)], [(2, 74)], [(2, 74)], [(2, 74)], [(2, 74), (4, 76), (5, 77)], [(2, 74), (6, 78)], [(2, 74), (7, 79)], [(2, 74), (8, 80)], [(2, 74), (3, 75), (9, 81)]] [[(13, .int .i64 0)], [], [], [(12, .pointer (some ⟨b12, 0, none⟩))], [(1, .slice (some ad) bl c)], [(11, .int .i64 (i : Int))], [], [], [], [], []] (by kernel_rfl) (by kernel_rfl) (by kernel_rfl) (by kernel_rfl) ?_ (fun _ _ _ _ _ h _ => h) [none, none, none, none, none, none, none, none, none, none, none, none, none, none, none, none, none, none, none, none, none, none, none, none, none, none, none, none, none, none, none, none, none, none, none, none, none, none, none, none, none, none, none, none, none, none, none, none, none, none, none, none, none, none, none, none, none, none, none, none, none, none, none, none, none, none, none, none, none, none, none, none, some 72, some 73, some 74, some 75, some 76, some 77, some 78, some 79, some 80, some 81, some 82, none, none, none, none, none, none, none, none, none, none, none, none, none, none, none, none, none, none, none, none, none, none, none, none, none, none, none, none, none, none, none, none, none, none, none, none, none, none, none] (by kernel_rfl) (by rfl) ?_ ?_
  · exact ⟨⟨rfl, trivial⟩, trivial, trivial, ⟨rfl, trivial⟩, ⟨rfl, trivial⟩, ⟨rfl, trivial⟩, trivial, trivial, trivial, trivial, trivial, trivial⟩
  · simp only [List.take_succ_cons, List.take_zero]
    -- 72
    refine ⟨fun a9 w9 hR hk hf => ?_, ?_⟩
    · simp only [KnowF, FreeF, and_true] at hk hf
      have e13 : a9.tmps[13]?.getD undef = .int .i64 0 := freeF_ev hf
      exact flow_on (rfl) (flow_run (v := .int .i64 0) (by go_simp) (But.refl _ _) (GV.of rfl))
    -- 73
    refine ⟨fun a9 w9 hR hk hf => ?_, ?_⟩
    · simp only [KnowF, FreeF, and_true] at hk hf
      have e72 := (hk).ev (v := .int .i64 0) rfl
      exact flow_on (rfl) (flow_run (v := .bool false) (by go_simp) (But.refl _ _) (GV.of rfl))
    -- 74
    refine ⟨fun a9 w9 hR hk hf => ?_, ?_⟩
    · simp only [KnowF, FreeF, and_true] at hk hf
      have e73 := (hk).ev (v := .bool false) rfl
      exact flow_on (rfl) (flow_run (v := .bool false) (by go_simp) (But.refl _ _) (GV.of rfl))
    -- 75
    refine ⟨fun a9 w9 hR hk hf => ?_, ?_⟩
    · simp only [KnowF, FreeF, and_true] at hk hf
      have hgd := (hk).eval (v := .bool false) rfl
      have e12 : a9.tmps[12]?.getD undef = .pointer (some ⟨b12, 0, none⟩) := freeF_ev hf
      have hh := hR.heap H12.out (by simp)
      have f0 := cl_of hh 0
      have f1 := cl_of hh 1
      have f2 := cl_of hh 2
      have f3 := cl_of hh 3
      simp only [List.getElem?_toArray, List.getElem?_cons_zero, List.getElem?_cons_succ] at f0 f1 f2 f3
      clear hh
      exact flow_on (wanted_at (j := 2) (b := false) (s := 74) rfl rfl hgd) (flow_run (v := .agg #[.int .u8 1, .int .u64 x, .int .i64 0, .int .i64 0]) (by go_simp) (But.refl _ _) (GV.of rfl))
    -- 76
    refine ⟨fun a9 w9 hR hk hf => ?_, ?_⟩
    · simp only [KnowF, FreeF, and_true] at hk hf
      have hgd := (hk).eval (v := .bool false) rfl
      have e1 : a9.tmps[1]?.getD undef = .slice (some ad) bl c := freeF_ev hf
      exact flow_on (wanted_at (j := 2) (b := false) (s := 74) rfl rfl hgd) (flow_run (v := .slice (some ad) bl c) (by go_simp) (But.refl _ _) (GV.of rfl))
    -- 77
    refine ⟨fun a9 w9 hR hk hf => ?_, ?_⟩
    · simp only [KnowF, FreeF, and_true] at hk hf
      have hgd := (hk).eval (v := .bool false) rfl
      have e11 : a9.tmps[11]?.getD undef = .int .i64 (i : Int) := freeF_ev hf
      exact flow_on (wanted_at (j := 2) (b := false) (s := 74) rfl rfl hgd) (flow_run (v := .int .i64 (i : Int)) (by go_simp) (But.refl _ _) (GV.of rfl))
    -- 78
    refine ⟨fun a9 w9 hR hk hf => ?_, ?_⟩
    · simp only [KnowF, FreeF, and_true] at hk hf
      have hgd := (hk.1).eval (v := .bool false) rfl
      have e76 := (hk.2.1).ev (v := .slice (some ad) bl c) rfl
      have e77 := (hk.2.2).ev (v := .int .i64 (i : Int)) rfl
      have g0 := HI0.out
      have g1 := HI2.out
      exact flow_on (wanted_at (j := 2) (b := false) (s := 74) rfl rfl hgd) (flow_run (v := .pointer (some (ad.add i))) (by go_simp) (But.refl _ _) (GV.of rfl))
    -- 79
    refine ⟨fun a9 w9 hR hk hf => ?_, ?_⟩
    · simp only [KnowF, FreeF, and_true] at hk hf
      have hgd := (hk.1).eval (v := .bool false) rfl
      have e78 := (hk.2).ev (v := .pointer (some (ad.add i))) rfl
      have f0 := cell_but hR HX.out (by simp)
      exact flow_on (wanted_at (j := 2) (b := false) (s := 74) rfl rfl hgd) (flow_run (v := .int .u8 x) (by go_simp) (But.refl _ _) (GV.of rfl))
    -- 80
    refine ⟨fun a9 w9 hR hk hf => ?_, ?_⟩
    · simp only [KnowF, FreeF, and_true] at hk hf
      have hgd := (hk.1).eval (v := .bool false) rfl
      have e79 := (hk.2).ev (v := .int .u8 x) rfl
      have g0 := HW.out
      exact flow_on (wanted_at (j := 2) (b := false) (s := 74) rfl rfl hgd) (flow_run (v := .int .u64 x) (by go_simp) (But.refl _ _) (GV.of rfl))
    -- 81
    refine ⟨fun a9 w9 hR hk hf => ?_, ?_⟩
    · simp only [KnowF, FreeF, and_true] at hk hf
      have hgd := (hk.1).eval (v := .bool false) rfl
      have e80 := (hk.2).ev (v := .int .u64 x) rfl
      exact flow_on (wanted_at (j := 2) (b := false) (s := 74) rfl rfl hgd) (flow_call (f := 24) (args := #[.int .u64 x]) (by go_simp) ((word_c x _).mono (by rintro e w' ⟨rfl, hb⟩; exact ⟨_, rfl, hb, GV.of rfl⟩)))
    -- 82
    refine ⟨fun a9 w9 hR hk hf => ?_, ?_⟩
    · simp only [KnowF, FreeF, and_true] at hk hf
      have hgd := (hk.1).eval (v := .bool false) rfl
      have e75 := (hk.2.1).ev (v := .agg #[.int .u8 1, .int .u64 x, .int .i64 0, .int .i64 0]) rfl
      have e81 := (hk.2.2).ev (v := .agg #[.int .u8 1, .int .u64 x, .int .i64 0, .int .i64 0]) rfl
      exact flow_on (wanted_at (j := 2) (b := false) (s := 74) rfl rfl hgd) (flow_run (v := .bool false) (by go_simp) (But.refl _ _) (GV.of rfl))
    exact trivial
  · intro f w5 hb5 hG
    have e74 : f 74 = .bool false := hG 2 _ 74 (by decide) rfl rfl _ rfl
    have e82 : f 82 = .bool false := hG 10 _ 82 (by decide) rfl rfl _ rfl
    have HB5 := Lib.hid hb5
    clear hG hb5
    simp only [List.drop_succ_cons, List.drop_zero]
    show wpList _ _ _ _ { tmps := List.toArray (u0 :: .slice (some ad) bl c :: u2 :: u3 :: u4 :: u5 :: u6 :: u7 :: u8 :: u9 :: u10 :: .int .i64 (i : Int) :: .pointer (some ⟨b12, 0, none⟩) :: .int .i64 0 :: u14 :: u15 :: u16 :: u17 :: u18 :: u19 :: u20 :: u21 :: u22 :: u23 :: u24 :: u25 :: u26 :: u27 :: u28 :: u29 :: u30 :: u31 :: u32 :: u33 :: u34 :: u35 :: u36 :: u37 :: u38 :: u39 :: u40 :: u41 :: u42 :: u43 :: u44 :: u45 :: u46 :: u47 :: u48 :: u49 :: u50 :: u51 :: u52 :: u53 :: u54 :: u55 :: u56 :: u57 :: u58 :: u59 :: u60 :: u61 :: u62 :: u63 :: u64 :: u65 :: u66 :: u67 :: u68 :: u69 :: u70 :: u71 :: f 72 :: f 73 :: f 74 :: f 75 :: f 76 :: f 77 :: f 78 :: f 79 :: f 80 :: f 81 :: f 82 :: u83 :: u84 :: u85 :: u86 :: u87 :: u88 :: u89 :: u90 :: u91 :: u92 :: u93 :: u94 :: u95 :: u96 :: u97 :: u98 :: u99 :: u100 :: u101 :: u102 :: u103 :: u104 :: u105 :: u106 :: u107 :: u108 :: u109 :: u110 :: u111 :: u112 :: u113 :: u114 :: u115 :: u116 :: u117 :: u118 :: u119 :: u120 :: u121 :: []), defers := [] } w5
    go_wp2_with fail
    exact HQ.out _ _ _ _ _ _ _ _ _ _ _ _ HB5.out
noncomputable def code_cb27 : Code := ((Try.f7.body.getD .skip |> regionOf5 27).getD .skip)
set_option maxRecDepth 100000 in
set_option maxHeartbeats 8000000 in
theorem cb27 (Q : Exit → Act → World → Prop) {wr : World} {b17 : Nat} {x : Int} (H17 : Hid (wr.heap[b17]? = some (.cells #[.int .u8 1, .int .u64 x, .int .i64 0, .int .i64 0] 33))) {u0 u1 u2 u3 u4 u5 u6 u7 u8 u9 u10 u11 u12 u13 u14 u16 u19 u20 u21 u22 u23 u24 u25 u26 u27 u28 u29 u30 u31 u32 u33 u34 u35 u36 u37 u38 u39 u40 u41 u42 u43 u44 u45 u46 u47 u48 u49 u50 u51 u52 u53 u54 u55 u56 u57 u58 u59 u60 u61 u62 u63 u64 u65 u66 u67 u68 u69 u70 u71 u72 u73 u74 u75 u76 u77 u78 u79 u80 u81 u82 u83 u84 u85 u86 u87 u88 u89 u90 u91 u92 u93 u94 u95 u96 u97 u98 u99 u100 u101 u102 u103 u104 u105 u106 u107 u108 u109 u110 u111 u112 u113 u114 u115 u116 u117 u118 u119 u120 u121 : Value} (hQ : ∀ (z114 z115 z116 z117 z118 z119 z120 z121 : Value) (w5 : World), But [] wr w5 → Q .normal { tmps := List.toArray (u0 :: u1 :: u2 :: u3 :: u4 :: u5 :: .bool true :: u7 :: u8 :: u9 :: u10 :: u11 :: u12 :: u13 :: u14 :: .int .u64 x :: u16 :: .pointer (some ⟨b17, 0, none⟩) :: .int .i64 0 :: u19 :: u20 :: u21 :: u22 :: u23 :: u24 :: u25 :: u26 :: u27 :: u28 :: u29 :: u30 :: u31 :: u32 :: u33 :: u34 :: u35 :: u36 :: u37 :: u38 :: u39 :: u40 :: u41 :: u42 :: u43 :: u44 :: u45 :: u46 :: u47 :: u48 :: u49 :: u50 :: u51 :: u52 :: u53 :: u54 :: u55 :: u56 :: u57 :: u58 :: u59 :: u60 :: u61 :: u62 :: u63 :: u64 :: u65 :: u66 :: u67 :: u68 :: u69 :: u70 :: u71 :: u72 :: u73 :: u74 :: u75 :: u76 :: u77 :: u78 :: u79 :: u80 :: u81 :: u82 :: u83 :: u84 :: u85 :: u86 :: u87 :: u88 :: u89 :: u90 :: u91 :: u92 :: u93 :: u94 :: u95 :: u96 :: u97 :: u98 :: u99 :: u100 :: u101 :: u102 :: u103 :: u104 :: u105 :: u106 :: u107 :: u108 :: u109 :: u110 :: u111 :: u112 :: u113 :: z114 :: z115 :: z116 :: z117 :: z118 :: z119 :: z120 :: z121 :: []), defers := [] } w5) :
    Code.wp Try.prog code_cb27 Q { tmps := List.toArray (u0 :: u1 :: u2 :: u3 :: u4 :: u5 :: u6 :: u7 :: u8 :: u9 :: u10 :: u11 :: u12 :: u13 :: u14 :: .int .u64 x :: u16 :: .pointer (some ⟨b17, 0, none⟩) :: .int .i64 0 :: u19 :: u20 :: u21 :: u22 :: u23 :: u24 :: u25 :: u26 :: u27 :: u28 :: u29 :: u30 :: u31 :: u32 :: u33 :: u34 :: u35 :: u36 :: u37 :: u38 :: u39 :: u40 :: u41 :: u42 :: u43 :: u44 :: u45 :: u46 :: u47 :: u48 :: u49 :: u50 :: u51 :: u52 :: u53 :: u54 :: u55 :: u56 :: u57 :: u58 :: u59 :: u60 :: u61 :: u62 :: u63 :: u64 :: u65 :: u66 :: u67 :: u68 :: u69 :: u70 :: u71 :: u72 :: u73 :: u74 :: u75 :: u76 :: u77 :: u78 :: u79 :: u80 :: u81 :: u82 :: u83 :: u84 :: u85 :: u86 :: u87 :: u88 :: u89 :: u90 :: u91 :: u92 :: u93 :: u94 :: u95 :: u96 :: u97 :: u98 :: u99 :: u100 :: u101 :: u102 :: u103 :: u104 :: u105 :: u106 :: u107 :: u108 :: u109 :: u110 :: u111 :: u112 :: u113 :: u114 :: u115 :: u116 :: u117 :: u118 :: u119 :: u120 :: u121 :: []), defers := [] } wr := by
  have HQ := Lib.hid hQ
  clear hQ
  conv => arg 2; whnf
  refine wp_region_flowS 8 (by decide) (by kernel_rfl) (But []) (fun _ _ _ h1 h2 => h1.trans h2 (by simp)) (⟨rfl, rfl, rfl, Nat.le_refl _, fun _ _ _ => rfl⟩) (GV [.int .i64 0, .bool true, .bool true, .agg #[.int .u8 1, .int .u64 x, .int .i64 0, .int .i64 0], .int .u64 x, .agg #[.int .u8 1, .int .u64 x, .int .i64 0, .int .i64 0], .bool true, .bool true]) [[], [(0, 114)], [(1, 115)], [(2, 116)], [(2, 116)], [(2, 116), (4, 118)], [(2, 116), (3, 117), (5, 119)], [(2, 116), (6, 120)]] [[(18, .int .i64 0)], [], [], [(17, .pointer (some ⟨b17, 0, none⟩))], [(15, .int .u64 x)], [], [], []] (by kernel_rfl) (by kernel_rfl) (by kernel_rfl) (by kernel_rfl) ?_ (fun _ _ _ _ _ h _ => h) [none, none, none, none, none, none, none, none, none, none, none, none, none, none, none, none, none, none, none, none, none, none, none, none, none, none, none, none, none, none, none, none, none, none, none, none, none, none, none, none, none, none, none, none, none, none, none, none, none, none, none, none, none, none, none, none, none, none, none, none, none, none, none, none, none, none, none, none, none, none, none, none, none, none, none, none, none, none, none, none, none, none, none, none, none, none, none, none, none, none, none, none, none, none, none, none, none, none, none, none, none, none, none, none, none, none, none, none, none, none, none, none, none, none, some 114, some 115, some 116, some 117, some 118, some 119, some 120, some 121] (by kernel_rfl) (by rfl) ?_ ?_
  · exact ⟨⟨rfl, trivial⟩, trivial, trivial, ⟨rfl, trivial⟩, ⟨rfl, trivial⟩, trivial, trivial, trivial, trivial⟩
  · simp only [List.take_succ_cons, List.take_zero]
    -- 114
    refine ⟨fun a9 w9 hR hk hf => ?_, ?_⟩
    · simp only [KnowF, FreeF, and_true] at hk hf
      have e18 : a9.tmps[18]?.getD undef = .int .i64 0 := freeF_ev hf
      exact flow_on (rfl) (flow_run (v := .int .i64 0) (by go_simp) (But.refl _ _) (GV.of rfl))
    -- 115
    refine ⟨fun a9 w9 hR hk hf => ?_, ?_⟩
    · simp only [KnowF, FreeF, and_true] at hk hf
      have e114 := (hk).ev (v := .int .i64 0) rfl
      exact flow_on (rfl) (flow_run (v := .bool true) (by go_simp) (But.refl _ _) (GV.of rfl))
    -- 116
    refine ⟨fun a9 w9 hR hk hf => ?_, ?_⟩
    · simp only [KnowF, FreeF, and_true] at hk hf
      have e115 := (hk).ev (v := .bool true) rfl
      exact flow_on (rfl) (flow_run (v := .bool true) (by go_simp) (But.refl _ _) (GV.of rfl))
    -- 117
    refine ⟨fun a9 w9 hR hk hf => ?_, ?_⟩
    · simp only [KnowF, FreeF, and_true] at hk hf
      have hgd := (hk).eval (v := .bool true) rfl
      have e17 : a9.tmps[17]?.getD undef = .pointer (some ⟨b17, 0, none⟩) := freeF_ev hf
      have hh := hR.heap H17.out (by simp)
      have f0 := cl_of hh 0
      have f1 := cl_of hh 1
      have f2 := cl_of hh 2
      have f3 := cl_of hh 3
      simp only [List.getElem?_toArray, List.getElem?_cons_zero, List.getElem?_cons_succ] at f0 f1 f2 f3
      clear hh
      exact flow_on (wanted_at (j := 2) (b := true) (s := 116) rfl rfl hgd) (flow_run (v := .agg #[.int .u8 1, .int .u64 x, .int .i64 0, .int .i64 0]) (by go_simp) (But.refl _ _) (GV.of rfl))
    -- 118
    refine ⟨fun a9 w9 hR hk hf => ?_, ?_⟩
    · simp only [KnowF, FreeF, and_true] at hk hf
      have hgd := (hk).eval (v := .bool true) rfl
      have e15 : a9.tmps[15]?.getD undef = .int .u64 x := freeF_ev hf
      exact flow_on (wanted_at (j := 2) (b := true) (s := 116) rfl rfl hgd) (flow_run (v := .int .u64 x) (by go_simp) (But.refl _ _) (GV.of rfl))
    -- 119
    refine ⟨fun a9 w9 hR hk hf => ?_, ?_⟩
    · simp only [KnowF, FreeF, and_true] at hk hf
      have hgd := (hk.1).eval (v := .bool true) rfl
      have e118 := (hk.2).ev (v := .int .u64 x) rfl
      exact flow_on (wanted_at (j := 2) (b := true) (s := 116) rfl rfl hgd) (flow_call (f := 24) (args := #[.int .u64 x]) (by go_simp) ((word_c x _).mono (by rintro e w' ⟨rfl, hb⟩; exact ⟨_, rfl, hb, GV.of rfl⟩)))
    -- 120
    refine ⟨fun a9 w9 hR hk hf => ?_, ?_⟩
    · simp only [KnowF, FreeF, and_true] at hk hf
      have hgd := (hk.1).eval (v := .bool true) rfl
      have e117 := (hk.2.1).ev (v := .agg #[.int .u8 1, .int .u64 x, .int .i64 0, .int .i64 0]) rfl
      have e119 := (hk.2.2).ev (v := .agg #[.int .u8 1, .int .u64 x, .int .i64 0, .int .i64 0]) rfl
      exact flow_on (wanted_at (j := 2) (b := true) (s := 116) rfl rfl hgd) (flow_run (v := .bool true) (by go_simp) (But.refl _ _) (GV.of rfl))
    -- 121
    refine ⟨fun a9 w9 hR hk hf => ?_, ?_⟩
    · simp only [KnowF, FreeF, and_true] at hk hf
      have e116 := (hk.1).ev (v := .bool true) rfl
      have e120 := (hk.2).ev (v := .bool true) rfl
      exact flow_on (rfl) (flow_run (v := .bool true) (by go_simp) (But.refl _ _) (GV.of rfl))
    exact trivial
  · intro f w5 hb5 hG
    have e121 : f 121 = .bool true := hG 7 _ 121 (by decide) rfl rfl _ rfl
    have HB5 := Lib.hid hb5
    clear hG hb5
    simp only [List.drop_succ_cons, List.drop_zero]
    show wpList _ _ _ _ { tmps := List.toArray (u0 :: u1 :: u2 :: u3 :: u4 :: u5 :: u6 :: u7 :: u8 :: u9 :: u10 :: u11 :: u12 :: u13 :: u14 :: .int .u64 x :: u16 :: .pointer (some ⟨b17, 0, none⟩) :: .int .i64 0 :: u19 :: u20 :: u21 :: u22 :: u23 :: u24 :: u25 :: u26 :: u27 :: u28 :: u29 :: u30 :: u31 :: u32 :: u33 :: u34 :: u35 :: u36 :: u37 :: u38 :: u39 :: u40 :: u41 :: u42 :: u43 :: u44 :: u45 :: u46 :: u47 :: u48 :: u49 :: u50 :: u51 :: u52 :: u53 :: u54 :: u55 :: u56 :: u57 :: u58 :: u59 :: u60 :: u61 :: u62 :: u63 :: u64 :: u65 :: u66 :: u67 :: u68 :: u69 :: u70 :: u71 :: u72 :: u73 :: u74 :: u75 :: u76 :: u77 :: u78 :: u79 :: u80 :: u81 :: u82 :: u83 :: u84 :: u85 :: u86 :: u87 :: u88 :: u89 :: u90 :: u91 :: u92 :: u93 :: u94 :: u95 :: u96 :: u97 :: u98 :: u99 :: u100 :: u101 :: u102 :: u103 :: u104 :: u105 :: u106 :: u107 :: u108 :: u109 :: u110 :: u111 :: u112 :: u113 :: f 114 :: f 115 :: f 116 :: f 117 :: f 118 :: f 119 :: f 120 :: f 121 :: []), defers := [] } w5
    go_wp2_with fail
    rw [e121]
    exact HQ.out _ _ _ _ _ _ _ _ _ HB5.out
end Go.Proofs.Ytmaeiifhmngllaa.M
