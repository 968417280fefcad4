/-
  RefineTurns: its drawn statements.
-/
import Derived.Test.YtmbmmcippglfoaaAwR
namespace Go.Proofs.Ytmbmmcippglfoaa.M
open Go.RowKit Go.Shelf
set_option linter.unusedVariables false
set_option linter.unusedSectionVars false
set_option linter.unusedSimpArgs false

noncomputable def code_tu9 : Code := ((Try.f5.body.getD .skip |> regionR 9).getD .skip)
set_option maxRecDepth 100000 in
set_option maxHeartbeats 8000000 in
theorem tu9 (Q : Exit → Act → World → Prop) {wr : World} {v m lo hi xv xm xlo xhi cv cm cl ch dv dm dl dh : Nat} {sl sh xsl xsh ci cj di dj : Int} {cb : Bool} {wide tk : Bool} {LB i p : Nat} {ba bx : Nat} (HI0 : Hid ((0 : Int) ≤ (i : Int))) (HI1 : Hid ((i : Int) < 6)) (HA : Hid (wr.heap[ba]? = some (.cells #[.int .u64 v, .int .u64 m, .int .u64 lo, .int .u64 hi, .int .i64 sl, .int .i64 sh] 28))) (HX : Hid (wr.heap[bx]? = some (.cells #[.int .u64 xv, .int .u64 xm, .int .u64 xlo, .int .u64 xhi, .int .i64 xsl, .int .i64 xsh] 28))) (HOP : Hid (wr.cell? ⟨LB, i, none⟩ = some (.int .u8 (p : Int)))) (HBR : Hid (∀ w, Calls Try.prog 12 #[.int .u8 (p : Int), .bool wide, .agg #[.int .u64 v, .int .u64 m, .int .u64 lo, .int .u64 hi, .int .i64 sl, .int .i64 sh], .agg #[.int .u64 xv, .int .u64 xm, .int .u64 xlo, .int .u64 xhi, .int .i64 xsl, .int .i64 xsh], .bool tk] w fun e w' => e = .returned (.tuple #[.agg #[.int .u64 cv, .int .u64 cm, .int .u64 cl, .int .u64 ch, .int .i64 ci, .int .i64 cj], .agg #[.int .u64 dv, .int .u64 dm, .int .u64 dl, .int .u64 dh, .int .i64 di, .int .i64 dj], .bool cb]) ∧ But [] w w')) {u1 u2 u3 u5 u8 u9 u10 u12 u13 u15 u16 u17 u18 u19 u20 u21 u22 u23 u24 u25 u26 u27 u28 u29 u30 u31 u32 u33 u34 u35 u36 u37 u38 u39 u40 u41 u42 u43 u44 u45 u46 u47 u48 u49 u50 u51 u52 u53 u54 u55 u56 u57 u58 u59 u60 u61 u62 u63 u64 u65 u66 u67 u68 u69 u70 u71 u72 u73 u74 u75 u76 u77 u78 u79 u80 u81 u82 u83 u84 u85 u86 u87 u88 u89 u90 u91 u92 u93 u94 u95 u96 u97 u98 u99 u100 u101 u102 u103 u104 u105 u106 u107 u108 u109 u110 u111 u112 u113 u114 u115 u116 u117 u118 u119 u120 u121 u122 u123 u124 u125 u126 u127 u128 u129 u130 u131 u132 u133 u134 u135 u136 u137 u138 u139 u140 u141 u142 u143 u144 : Value} (hQ : ∀ (z39 z40 z41 z42 z43 z44 z45 z46 z47 z38 z48 z49 z50 : Value) (w6 : World) (k l : Nat), But [] wr w6 → wr.heap.size ≤ k → wr.heap.size ≤ l → k ≠ l → w6.heap[k]? = some (.cells #[.int .u64 cv, .int .u64 cm, .int .u64 cl, .int .u64 ch, .int .i64 ci, .int .i64 cj] 28) → w6.heap[l]? = some (.cells #[.int .u64 dv, .int .u64 dm, .int .u64 dl, .int .u64 dh, .int .i64 di, .int .i64 dj] 28) → Q .normal { tmps := List.toArray (.bool wide :: u1 :: u2 :: u3 :: .bool tk :: u5 :: .pointer (some ⟨ba, 0, none⟩) :: .pointer (some ⟨bx, 0, none⟩) :: u8 :: u9 :: u10 :: .slice (some ⟨LB, 0, none⟩) 6 6 :: u12 :: u13 :: .int .i64 (i : Int) :: .pointer (some ⟨k, 0, none⟩) :: .pointer (some ⟨l, 0, none⟩) :: .bool cb :: u18 :: u19 :: u20 :: u21 :: u22 :: u23 :: u24 :: u25 :: u26 :: u27 :: u28 :: u29 :: u30 :: u31 :: u32 :: u33 :: u34 :: u35 :: u36 :: u37 :: z38 :: z39 :: z40 :: z41 :: z42 :: z43 :: z44 :: z45 :: z46 :: z47 :: z48 :: z49 :: z50 :: u51 :: u52 :: u53 :: u54 :: u55 :: u56 :: u57 :: u58 :: u59 :: u60 :: u61 :: u62 :: u63 :: u64 :: u65 :: u66 :: u67 :: u68 :: u69 :: u70 :: u71 :: u72 :: u73 :: u74 :: u75 :: u76 :: u77 :: u78 :: u79 :: u80 :: u81 :: u82 :: u83 :: u84 :: u85 :: u86 :: u87 :: u88 :: u89 :: u90 :: u91 :: u92 :: u93 :: u94 :: u95 :: u96 :: u97 :: u98 :: u99 :: u100 :: u101 :: u102 :: u103 :: u104 :: u105 :: u106 :: u107 :: u108 :: u109 :: u110 :: u111 :: u112 :: u113 :: u114 :: u115 :: u116 :: u117 :: u118 :: u119 :: u120 :: u121 :: u122 :: u123 :: u124 :: u125 :: u126 :: u127 :: u128 :: u129 :: u130 :: u131 :: u132 :: u133 :: u134 :: u135 :: u136 :: u137 :: u138 :: u139 :: u140 :: u141 :: u142 :: u143 :: u144 :: []), defers := [] } w6) :
    Code.wp Try.prog code_tu9 Q { tmps := List.toArray (.bool wide :: u1 :: u2 :: u3 :: .bool tk :: u5 :: .pointer (some ⟨ba, 0, none⟩) :: .pointer (some ⟨bx, 0, none⟩) :: u8 :: u9 :: u10 :: .slice (some ⟨LB, 0, none⟩) 6 6 :: u12 :: u13 :: .int .i64 (i : Int) :: u15 :: u16 :: u17 :: u18 :: u19 :: u20 :: u21 :: u22 :: u23 :: u24 :: u25 :: u26 :: u27 :: u28 :: u29 :: u30 :: u31 :: u32 :: u33 :: u34 :: u35 :: u36 :: u37 :: u38 :: u39 :: u40 :: u41 :: u42 :: u43 :: u44 :: u45 :: u46 :: u47 :: u48 :: u49 :: u50 :: u51 :: u52 :: u53 :: u54 :: u55 :: u56 :: u57 :: u58 :: u59 :: u60 :: u61 :: u62 :: u63 :: u64 :: u65 :: u66 :: u67 :: u68 :: u69 :: u70 :: u71 :: u72 :: u73 :: u74 :: u75 :: u76 :: u77 :: u78 :: u79 :: u80 :: u81 :: u82 :: u83 :: u84 :: u85 :: u86 :: u87 :: u88 :: u89 :: u90 :: u91 :: u92 :: u93 :: u94 :: u95 :: u96 :: u97 :: u98 :: u99 :: u100 :: u101 :: u102 :: u103 :: u104 :: u105 :: u106 :: u107 :: u108 :: u109 :: u110 :: u111 :: u112 :: u113 :: u114 :: u115 :: u116 :: u117 :: u118 :: u119 :: u120 :: u121 :: u122 :: u123 :: u124 :: u125 :: u126 :: u127 :: u128 :: u129 :: u130 :: u131 :: u132 :: u133 :: u134 :: u135 :: u136 :: u137 :: u138 :: u139 :: u140 :: u141 :: u142 :: u143 :: u144 :: []), defers := [] } wr := by
  have HQ := Lib.hid hQ
  clear hQ
  conv => arg 2; whnf
  refine wp_region_pair 13 (by kernel_rfl) (by kernel_rfl) [.slice (some ⟨LB, 0, none⟩) 6 6, .int .i64 (i : Int), .pointer (some ⟨LB, i, none⟩), .int .u8 (p : Int), .bool wide, .agg #[.int .u64 v, .int .u64 m, .int .u64 lo, .int .u64 hi, .int .i64 sl, .int .i64 sh], .agg #[.int .u64 xv, .int .u64 xm, .int .u64 xlo, .int .u64 xhi, .int .i64 xsl, .int .i64 xsh], .bool tk, .tuple #[.agg #[.int .u64 cv, .int .u64 cm, .int .u64 cl, .int .u64 ch, .int .i64 ci, .int .i64 cj], .agg #[.int .u64 dv, .int .u64 dm, .int .u64 dl, .int .u64 dh, .int .i64 di, .int .i64 dj], .bool cb], .tuple #[.agg #[.int .u64 cv, .int .u64 cm, .int .u64 cl, .int .u64 ch, .int .i64 ci, .int .i64 cj], .agg #[.int .u64 dv, .int .u64 dm, .int .u64 dl, .int .u64 dh, .int .i64 di, .int .i64 dj], .bool cb], .agg #[.int .u64 cv, .int .u64 cm, .int .u64 cl, .int .u64 ch, .int .i64 ci, .int .i64 cj], .agg #[.int .u64 dv, .int .u64 dm, .int .u64 dl, .int .u64 dh, .int .i64 di, .int .i64 dj], .bool cb] [[], [], [(0, 39), (1, 40)], [(2, 41)], [], [], [], [], [(3, 42), (4, 43), (5, 44), (6, 45), (7, 46)], [(8, 47)], [(9, 38)], [(9, 38)], [(9, 38)]] [[(11, .slice (some ⟨LB, 0, none⟩) 6 6)], [(14, .int .i64 (i : Int))], [], [], [(0, .bool wide)], [(6, .pointer (some ⟨ba, 0, none⟩))], [(7, .pointer (some ⟨bx, 0, none⟩))], [(4, .bool tk)], [], [], [], [], []] (by kernel_rfl) (by kernel_rfl) (by kernel_rfl) ?_ ?_ [none, none, none, none, none, none, none, none, none, none, none, none, none, none, none, some 15, some 16, some 17, none, none, none, none, none, none, none, none, none, none, none, none, none, none, none, none, none, none, none, none, some 38, some 39, some 40, some 41, some 42, some 43, some 44, some 45, some 46, some 47, some 48, some 49, some 50, none, none, none, none, none, none, none, none, none, none, none, none, none, none, none, none, none, none, none, none, none, none, none, none, none, none, none, none, none, none, none, none, none, none, none, none, none, none, none, none, none, none, none, none, none, none, none, none, none, none, none, none, none, none, none, none, none, none, none, none, none, none, none, none, none, none, none, none, none, none, none, none, none, none, none, none, none, none, none, none, none, none, none, none, none, none, none, none, none, none, none, none, none, none] (by kernel_rfl) (by rfl) (jx := 10) (jy := 11) (jz := 12) (sx := 48) (sy := 49) (sz := 50) (A := 15) (B := 16) (c := 17) (zs := #[.int .u64 0, .int .u64 0, .int .u64 0, .int .u64 0, .int .i64 0, .int .i64 0]) (cx := #[.int .u64 cv, .int .u64 cm, .int .u64 cl, .int .u64 ch, .int .i64 ci, .int .i64 cj]) (cy := #[.int .u64 dv, .int .u64 dm, .int .u64 dl, .int .u64 dh, .int .i64 di, .int .i64 dj]) (t := 28) (vx := .agg #[.int .u64 cv, .int .u64 cm, .int .u64 cl, .int .u64 ch, .int .i64 ci, .int .i64 cj]) (vy := .agg #[.int .u64 dv, .int .u64 dm, .int .u64 dl, .int .u64 dh, .int .i64 di, .int .i64 dj]) (vz := .bool cb) rfl rfl rfl rfl rfl rfl rfl rfl rfl rfl (by kernel_rfl) (by kernel_rfl) (by kernel_rfl) rfl (by kernel_rfl) rfl (by kernel_rfl) rfl ?_ ?_ ?_ ?_ ?_ ?_
  · exact ⟨⟨rfl, trivial⟩, ⟨rfl, trivial⟩, trivial, trivial, ⟨rfl, trivial⟩, ⟨rfl, trivial⟩, ⟨rfl, trivial⟩, ⟨rfl, trivial⟩, trivial, trivial, trivial, trivial, trivial, trivial⟩
  · simp only [List.take_succ_cons, List.take_zero]
    refine ⟨fun a9 w9 hR hk hf => ?_, ?_⟩
    · simp only [KnowF, FreeF, and_true] at hk hf
      have e11 : a9.tmps[11]?.getD undef = .slice (some ⟨LB, 0, none⟩) 6 6 := freeF_ev hf
      exact flow_run (v := .slice (some ⟨LB, 0, none⟩) 6 6) (by go_simp) (But.refl _ _) (GV.of rfl)
    refine ⟨fun a9 w9 hR hk hf => ?_, ?_⟩
    · simp only [KnowF, FreeF, and_true] at hk hf
      have e14 : a9.tmps[14]?.getD undef = .int .i64 (i : Int) := freeF_ev hf
      exact flow_run (v := .int .i64 (i : Int)) (by go_simp) (But.refl _ _) (GV.of rfl)
    refine ⟨fun a9 w9 hR hk hf => ?_, ?_⟩
    · simp only [KnowF, FreeF, and_true] at hk hf
      have e39 := (hk.1).ev (v := .slice (some ⟨LB, 0, none⟩) 6 6) rfl
      have e40 := (hk.2).ev (v := .int .i64 (i : Int)) rfl
      have g0 := HI0.out
      have g1 := HI1.out
      exact flow_run (v := .pointer (some ⟨LB, i, none⟩)) (by go_simp) (But.refl _ _) (GV.of rfl)
    refine ⟨fun a9 w9 hR hk hf => ?_, ?_⟩
    · simp only [KnowF, FreeF, and_true] at hk hf
      have e41 := (hk).ev (v := .pointer (some ⟨LB, i, none⟩)) rfl
      have f0 := cell_but hR HOP.out (by simp)
      exact flow_run (v := .int .u8 (p : Int)) (by go_simp) (But.refl _ _) (GV.of rfl)
    refine ⟨fun a9 w9 hR hk hf => ?_, ?_⟩
    · simp only [KnowF, FreeF, and_true] at hk hf
      have e0 : a9.tmps[0]?.getD undef = .bool wide := freeF_ev hf
      exact flow_run (v := .bool wide) (by go_simp) (But.refl _ _) (GV.of rfl)
    refine ⟨fun a9 w9 hR hk hf => ?_, ?_⟩
    · simp only [KnowF, FreeF, and_true] at hk hf
      have e6 : a9.tmps[6]?.getD undef = .pointer (some ⟨ba, 0, none⟩) := freeF_ev hf
      have hh := hR.heap HA.out (by simp)
      have f0 := cl_of hh 0
      have f1 := cl_of hh 1
      have f2 := cl_of hh 2
      have f3 := cl_of hh 3
      have f4 := cl_of hh 4
      have f5 := cl_of hh 5
      simp only [List.getElem?_toArray, List.getElem?_cons_zero, List.getElem?_cons_succ] at f0 f1 f2 f3 f4 f5
      clear hh
      exact flow_run (v := .agg #[.int .u64 v, .int .u64 m, .int .u64 lo, .int .u64 hi, .int .i64 sl, .int .i64 sh]) (by go_simp) (But.refl _ _) (GV.of rfl)
    refine ⟨fun a9 w9 hR hk hf => ?_, ?_⟩
    · simp only [KnowF, FreeF, and_true] at hk hf
      have e7 : a9.tmps[7]?.getD undef = .pointer (some ⟨bx, 0, none⟩) := freeF_ev hf
      have hh := hR.heap HX.out (by simp)
      have f0 := cl_of hh 0
      have f1 := cl_of hh 1
      have f2 := cl_of hh 2
      have f3 := cl_of hh 3
      have f4 := cl_of hh 4
      have f5 := cl_of hh 5
      simp only [List.getElem?_toArray, List.getElem?_cons_zero, List.getElem?_cons_succ] at f0 f1 f2 f3 f4 f5
      clear hh
      exact flow_run (v := .agg #[.int .u64 xv, .int .u64 xm, .int .u64 xlo, .int .u64 xhi, .int .i64 xsl, .int .i64 xsh]) (by go_simp) (But.refl _ _) (GV.of rfl)
    refine ⟨fun a9 w9 hR hk hf => ?_, ?_⟩
    · simp only [KnowF, FreeF, and_true] at hk hf
      have e4 : a9.tmps[4]?.getD undef = .bool tk := freeF_ev hf
      exact flow_run (v := .bool tk) (by go_simp) (But.refl _ _) (GV.of rfl)
    refine ⟨fun a9 w9 hR hk hf => ?_, ?_⟩
    · simp only [KnowF, FreeF, and_true] at hk hf
      have e42 := (hk.1).ev (v := .int .u8 (p : Int)) rfl
      have e43 := (hk.2.1).ev (v := .bool wide) rfl
      have e44 := (hk.2.2.1).ev (v := .agg #[.int .u64 v, .int .u64 m, .int .u64 lo, .int .u64 hi, .int .i64 sl, .int .i64 sh]) rfl
      have e45 := (hk.2.2.2.1).ev (v := .agg #[.int .u64 xv, .int .u64 xm, .int .u64 xlo, .int .u64 xhi, .int .i64 xsl, .int .i64 xsh]) rfl
      have e46 := (hk.2.2.2.2).ev (v := .bool tk) rfl
      exact flow_call (f := 12) (args := #[.int .u8 (p : Int), .bool wide, .agg #[.int .u64 v, .int .u64 m, .int .u64 lo, .int .u64 hi, .int .i64 sl, .int .i64 sh], .agg #[.int .u64 xv, .int .u64 xm, .int .u64 xlo, .int .u64 xhi, .int .i64 xsl, .int .i64 xsh], .bool tk]) (by go_simp) ((HBR.out _).mono (by rintro e w' ⟨rfl, hb⟩; exact ⟨_, rfl, hb, GV.of rfl⟩))
    refine ⟨fun a9 w9 hR hk hf => ?_, ?_⟩
    · simp only [KnowF, FreeF, and_true] at hk hf
      have e47 := (hk).ev (v := .tuple #[.agg #[.int .u64 cv, .int .u64 cm, .int .u64 cl, .int .u64 ch, .int .i64 ci, .int .i64 cj], .agg #[.int .u64 dv, .int .u64 dm, .int .u64 dl, .int .u64 dh, .int .i64 di, .int .i64 dj], .bool cb]) rfl
      exact flow_run (v := .tuple #[.agg #[.int .u64 cv, .int .u64 cm, .int .u64 cl, .int .u64 ch, .int .i64 ci, .int .i64 cj], .agg #[.int .u64 dv, .int .u64 dm, .int .u64 dl, .int .u64 dh, .int .i64 di, .int .i64 dj], .bool cb]) (by go_simp) (But.refl _ _) (GV.of rfl)
    refine ⟨fun a9 w9 hR hk hf => ?_, ?_⟩
    · simp only [KnowF, FreeF, and_true] at hk hf
      have e38 := (hk).ev (v := .tuple #[.agg #[.int .u64 cv, .int .u64 cm, .int .u64 cl, .int .u64 ch, .int .i64 ci, .int .i64 cj], .agg #[.int .u64 dv, .int .u64 dm, .int .u64 dl, .int .u64 dh, .int .i64 di, .int .i64 dj], .bool cb]) rfl
      exact flow_run (v := .agg #[.int .u64 cv, .int .u64 cm, .int .u64 cl, .int .u64 ch, .int .i64 ci, .int .i64 cj]) (by go_simp) (But.refl _ _) (GV.of rfl)
    refine ⟨fun a9 w9 hR hk hf => ?_, ?_⟩
    · simp only [KnowF, FreeF, and_true] at hk hf
      have e38 := (hk).ev (v := .tuple #[.agg #[.int .u64 cv, .int .u64 cm, .int .u64 cl, .int .u64 ch, .int .i64 ci, .int .i64 cj], .agg #[.int .u64 dv, .int .u64 dm, .int .u64 dl, .int .u64 dh, .int .i64 di, .int .i64 dj], .bool cb]) rfl
      exact flow_run (v := .agg #[.int .u64 dv, .int .u64 dm, .int .u64 dl, .int .u64 dh, .int .i64 di, .int .i64 dj]) (by go_simp) (But.refl _ _) (GV.of rfl)
    refine ⟨fun a9 w9 hR hk hf => ?_, ?_⟩
    · simp only [KnowF, FreeF, and_true] at hk hf
      have e38 := (hk).ev (v := .tuple #[.agg #[.int .u64 cv, .int .u64 cm, .int .u64 cl, .int .u64 ch, .int .i64 ci, .int .i64 cj], .agg #[.int .u64 dv, .int .u64 dm, .int .u64 dl, .int .u64 dh, .int .i64 di, .int .i64 dj], .bool cb]) rfl
      exact flow_run (v := .bool cb) (by go_simp) (But.refl _ _) (GV.of rfl)
    exact trivial
  · exact fun a w => pair_alloc (v := ptr0 w.heap.size) (by unfold ptr0; go_simp)
  · exact fun a w => pair_alloc (v := ptr0 w.heap.size) (by unfold ptr0; go_simp)
  · intro a w k e1 e2 h
    unfold ptr0 at e1
    have f0 := fz_of h 0
    have f1 := fz_of h 1
    have f2 := fz_of h 2
    have f3 := fz_of h 3
    have f4 := fz_of h 4
    have f5 := fz_of h 5
    have c0 := cl_of h 0
    have c1 := cl_of h 1
    have c2 := cl_of h 2
    have c3 := cl_of h 3
    have c4 := cl_of h 4
    have c5 := cl_of h 5
    simp only [List.getElem?_toArray, List.getElem?_cons_zero, List.getElem?_cons_succ] at c0 c1 c2 c3 c4 c5 f0 f1 f2 f3 f4 f5
    exact pair_store rfl (w' := ((((((w.setCell ⟨k, 0, none⟩ (.int .u64 cv)).setCell ⟨k, 1, none⟩ (.int .u64 cm)).setCell ⟨k, 2, none⟩ (.int .u64 cl)).setCell ⟨k, 3, none⟩ (.int .u64 ch)).setCell ⟨k, 4, none⟩ (.int .i64 ci)).setCell ⟨k, 5, none⟩ (.int .i64 cj))) (by go_simp) but6x (set6x h)
  · intro a w k e1 e2 h
    unfold ptr0 at e1
    have f0 := fz_of h 0
    have f1 := fz_of h 1
    have f2 := fz_of h 2
    have f3 := fz_of h 3
    have f4 := fz_of h 4
    have f5 := fz_of h 5
    have c0 := cl_of h 0
    have c1 := cl_of h 1
    have c2 := cl_of h 2
    have c3 := cl_of h 3
    have c4 := cl_of h 4
    have c5 := cl_of h 5
    simp only [List.getElem?_toArray, List.getElem?_cons_zero, List.getElem?_cons_succ] at c0 c1 c2 c3 c4 c5 f0 f1 f2 f3 f4 f5
    exact pair_store rfl (w' := ((((((w.setCell ⟨k, 0, none⟩ (.int .u64 dv)).setCell ⟨k, 1, none⟩ (.int .u64 dm)).setCell ⟨k, 2, none⟩ (.int .u64 dl)).setCell ⟨k, 3, none⟩ (.int .u64 dh)).setCell ⟨k, 4, none⟩ (.int .i64 di)).setCell ⟨k, 5, none⟩ (.int .i64 dj))) (by go_simp) but6x (set6x h)
  · intro a w e
    exact pair_alloc (v := .bool cb) (by go_simp)
  · intro f w kA kB hb eA eB ec h1 h2 h3 h4 h5
    show Q .normal { tmps := List.toArray (.bool wide :: u1 :: u2 :: u3 :: .bool tk :: u5 :: .pointer (some ⟨ba, 0, none⟩) :: .pointer (some ⟨bx, 0, none⟩) :: u8 :: u9 :: u10 :: .slice (some ⟨LB, 0, none⟩) 6 6 :: u12 :: u13 :: .int .i64 (i : Int) :: f 15 :: f 16 :: f 17 :: u18 :: u19 :: u20 :: u21 :: u22 :: u23 :: u24 :: u25 :: u26 :: u27 :: u28 :: u29 :: u30 :: u31 :: u32 :: u33 :: u34 :: u35 :: u36 :: u37 :: f 38 :: f 39 :: f 40 :: f 41 :: f 42 :: f 43 :: f 44 :: f 45 :: f 46 :: f 47 :: f 48 :: f 49 :: f 50 :: u51 :: u52 :: u53 :: u54 :: u55 :: u56 :: u57 :: u58 :: u59 :: u60 :: u61 :: u62 :: u63 :: u64 :: u65 :: u66 :: u67 :: u68 :: u69 :: u70 :: u71 :: u72 :: u73 :: u74 :: u75 :: u76 :: u77 :: u78 :: u79 :: u80 :: u81 :: u82 :: u83 :: u84 :: u85 :: u86 :: u87 :: u88 :: u89 :: u90 :: u91 :: u92 :: u93 :: u94 :: u95 :: u96 :: u97 :: u98 :: u99 :: u100 :: u101 :: u102 :: u103 :: u104 :: u105 :: u106 :: u107 :: u108 :: u109 :: u110 :: u111 :: u112 :: u113 :: u114 :: u115 :: u116 :: u117 :: u118 :: u119 :: u120 :: u121 :: u122 :: u123 :: u124 :: u125 :: u126 :: u127 :: u128 :: u129 :: u130 :: u131 :: u132 :: u133 :: u134 :: u135 :: u136 :: u137 :: u138 :: u139 :: u140 :: u141 :: u142 :: u143 :: u144 :: []), defers := [] } w
    unfold ptr0 at eA eB
    rw [eA, eB, ec]
    exact HQ.out _ _ _ _ _ _ _ _ _ _ _ _ _ _ _ _ hb h1 h2 h3 h4 h5
noncomputable def code_tu11 : Code := ((Try.f5.body.getD .skip |> regionR 11).getD .skip)
set_option maxRecDepth 100000 in
set_option maxHeartbeats 8000000 in
theorem tu11 (Q : Exit → Act → World → Prop) {wr : World} {v m lo hi xv xm xlo xhi cv cm cl ch dv dm dl dh : Nat} {sl sh xsl xsh ci cj di dj : Int} {cb : Bool} {wide tk : Bool} {LB i p : Nat} {ba bx : Nat} (HI0 : Hid ((0 : Int) ≤ (i : Int))) (HI1 : Hid ((i : Int) < 6)) (HA : Hid (wr.heap[ba]? = some (.cells #[.int .u64 v, .int .u64 m, .int .u64 lo, .int .u64 hi, .int .i64 sl, .int .i64 sh] 28))) (HX : Hid (wr.heap[bx]? = some (.cells #[.int .u64 xv, .int .u64 xm, .int .u64 xlo, .int .u64 xhi, .int .i64 xsl, .int .i64 xsh] 28))) (HOP : Hid (wr.cell? ⟨LB, i, none⟩ = some (.int .u8 (p : Int)))) (HBR : Hid (∀ w, Calls Try.prog 12 #[.int .u8 (p : Int), .bool wide, .agg #[.int .u64 v, .int .u64 m, .int .u64 lo, .int .u64 hi, .int .i64 sl, .int .i64 sh], .agg #[.int .u64 xv, .int .u64 xm, .int .u64 xlo, .int .u64 xhi, .int .i64 xsl, .int .i64 xsh], .bool (!tk)] w fun e w' => e = .returned (.tuple #[.agg #[.int .u64 cv, .int .u64 cm, .int .u64 cl, .int .u64 ch, .int .i64 ci, .int .i64 cj], .agg #[.int .u64 dv, .int .u64 dm, .int .u64 dl, .int .u64 dh, .int .i64 di, .int .i64 dj], .bool cb]) ∧ But [] w w')) {u1 u2 u3 u5 u8 u9 u10 u11 u13 u15 u16 u17 u18 u19 u20 u21 u22 u23 u24 u25 u26 u27 u28 u29 u30 u31 u32 u33 u34 u35 u36 u37 u38 u39 u40 u41 u42 u43 u44 u45 u46 u47 u48 u49 u50 u51 u52 u53 u54 u55 u56 u57 u58 u59 u60 u61 u62 u63 u64 u65 u66 u67 u68 u69 u70 u71 u72 u73 u74 u75 u76 u77 u78 u79 u80 u81 u82 u83 u84 u85 u86 u87 u88 u89 u90 u91 u92 u93 u94 u95 u96 u97 u98 u99 u100 u101 u102 u103 u104 u105 u106 u107 u108 u109 u110 u111 u112 u113 u114 u115 u116 u117 u118 u119 u120 u121 u122 u123 u124 u125 u126 u127 u128 u129 u130 u131 u132 u133 u134 u135 u136 u137 u138 u139 u140 u141 u142 u143 u144 : Value} (hQ : ∀ (z57 z58 z59 z60 z61 z62 z63 z64 z65 z66 z56 z67 z68 z69 : Value) (w6 : World) (k l : Nat), But [] wr w6 → wr.heap.size ≤ k → wr.heap.size ≤ l → k ≠ l → w6.heap[k]? = some (.cells #[.int .u64 cv, .int .u64 cm, .int .u64 cl, .int .u64 ch, .int .i64 ci, .int .i64 cj] 28) → w6.heap[l]? = some (.cells #[.int .u64 dv, .int .u64 dm, .int .u64 dl, .int .u64 dh, .int .i64 di, .int .i64 dj] 28) → Q .normal { tmps := List.toArray (.bool wide :: u1 :: u2 :: u3 :: .bool tk :: u5 :: .pointer (some ⟨ba, 0, none⟩) :: .pointer (some ⟨bx, 0, none⟩) :: u8 :: u9 :: u10 :: u11 :: .slice (some ⟨LB, 0, none⟩) 6 6 :: u13 :: .int .i64 (i : Int) :: u15 :: u16 :: u17 :: .pointer (some ⟨k, 0, none⟩) :: .pointer (some ⟨l, 0, none⟩) :: .bool cb :: u21 :: u22 :: u23 :: u24 :: u25 :: u26 :: u27 :: u28 :: u29 :: u30 :: u31 :: u32 :: u33 :: u34 :: u35 :: u36 :: u37 :: u38 :: u39 :: u40 :: u41 :: u42 :: u43 :: u44 :: u45 :: u46 :: u47 :: u48 :: u49 :: u50 :: u51 :: u52 :: u53 :: u54 :: u55 :: z56 :: z57 :: z58 :: z59 :: z60 :: z61 :: z62 :: z63 :: z64 :: z65 :: z66 :: z67 :: z68 :: z69 :: u70 :: u71 :: u72 :: u73 :: u74 :: u75 :: u76 :: u77 :: u78 :: u79 :: u80 :: u81 :: u82 :: u83 :: u84 :: u85 :: u86 :: u87 :: u88 :: u89 :: u90 :: u91 :: u92 :: u93 :: u94 :: u95 :: u96 :: u97 :: u98 :: u99 :: u100 :: u101 :: u102 :: u103 :: u104 :: u105 :: u106 :: u107 :: u108 :: u109 :: u110 :: u111 :: u112 :: u113 :: u114 :: u115 :: u116 :: u117 :: u118 :: u119 :: u120 :: u121 :: u122 :: u123 :: u124 :: u125 :: u126 :: u127 :: u128 :: u129 :: u130 :: u131 :: u132 :: u133 :: u134 :: u135 :: u136 :: u137 :: u138 :: u139 :: u140 :: u141 :: u142 :: u143 :: u144 :: []), defers := [] } w6) :
    Code.wp Try.prog code_tu11 Q { tmps := List.toArray (.bool wide :: u1 :: u2 :: u3 :: .bool tk :: u5 :: .pointer (some ⟨ba, 0, none⟩) :: .pointer (some ⟨bx, 0, none⟩) :: u8 :: u9 :: u10 :: u11 :: .slice (some ⟨LB, 0, none⟩) 6 6 :: u13 :: .int .i64 (i : Int) :: u15 :: u16 :: u17 :: u18 :: u19 :: u20 :: u21 :: u22 :: u23 :: u24 :: u25 :: u26 :: u27 :: u28 :: u29 :: u30 :: u31 :: u32 :: u33 :: u34 :: u35 :: u36 :: u37 :: u38 :: u39 :: u40 :: u41 :: u42 :: u43 :: u44 :: u45 :: u46 :: u47 :: u48 :: u49 :: u50 :: u51 :: u52 :: u53 :: u54 :: u55 :: u56 :: u57 :: u58 :: u59 :: u60 :: u61 :: u62 :: u63 :: u64 :: u65 :: u66 :: u67 :: u68 :: u69 :: u70 :: u71 :: u72 :: u73 :: u74 :: u75 :: u76 :: u77 :: u78 :: u79 :: u80 :: u81 :: u82 :: u83 :: u84 :: u85 :: u86 :: u87 :: u88 :: u89 :: u90 :: u91 :: u92 :: u93 :: u94 :: u95 :: u96 :: u97 :: u98 :: u99 :: u100 :: u101 :: u102 :: u103 :: u104 :: u105 :: u106 :: u107 :: u108 :: u109 :: u110 :: u111 :: u112 :: u113 :: u114 :: u115 :: u116 :: u117 :: u118 :: u119 :: u120 :: u121 :: u122 :: u123 :: u124 :: u125 :: u126 :: u127 :: u128 :: u129 :: u130 :: u131 :: u132 :: u133 :: u134 :: u135 :: u136 :: u137 :: u138 :: u139 :: u140 :: u141 :: u142 :: u143 :: u144 :: []), defers := [] } wr := by
  have HQ := Lib.hid hQ
  clear hQ
  conv => arg 2; whnf
  refine wp_region_pair 14 (by kernel_rfl) (by kernel_rfl) [.slice (some ⟨LB, 0, none⟩) 6 6, .int .i64 (i : Int), .pointer (some ⟨LB, i, none⟩), .int .u8 (p : Int), .bool wide, .agg #[.int .u64 v, .int .u64 m, .int .u64 lo, .int .u64 hi, .int .i64 sl, .int .i64 sh], .agg #[.int .u64 xv, .int .u64 xm, .int .u64 xlo, .int .u64 xhi, .int .i64 xsl, .int .i64 xsh], .bool tk, .bool (!tk), .tuple #[.agg #[.int .u64 cv, .int .u64 cm, .int .u64 cl, .int .u64 ch, .int .i64 ci, .int .i64 cj], .agg #[.int .u64 dv, .int .u64 dm, .int .u64 dl, .int .u64 dh, .int .i64 di, .int .i64 dj], .bool cb], .tuple #[.agg #[.int .u64 cv, .int .u64 cm, .int .u64 cl, .int .u64 ch, .int .i64 ci, .int .i64 cj], .agg #[.int .u64 dv, .int .u64 dm, .int .u64 dl, .int .u64 dh, .int .i64 di, .int .i64 dj], .bool cb], .agg #[.int .u64 cv, .int .u64 cm, .int .u64 cl, .int .u64 ch, .int .i64 ci, .int .i64 cj], .agg #[.int .u64 dv, .int .u64 dm, .int .u64 dl, .int .u64 dh, .int .i64 di, .int .i64 dj], .bool cb] [[], [], [(0, 57), (1, 58)], [(2, 59)], [], [], [], [], [(7, 64)], [(3, 60), (4, 61), (5, 62), (6, 63), (8, 65)], [(9, 66)], [(10, 56)], [(10, 56)], [(10, 56)]] [[(12, .slice (some ⟨LB, 0, none⟩) 6 6)], [(14, .int .i64 (i : Int))], [], [], [(0, .bool wide)], [(6, .pointer (some ⟨ba, 0, none⟩))], [(7, .pointer (some ⟨bx, 0, none⟩))], [(4, .bool tk)], [], [], [], [], [], []] (by kernel_rfl) (by kernel_rfl) (by kernel_rfl) ?_ ?_ [none, none, none, none, none, none, none, none, none, none, none, none, none, none, none, none, none, none, some 18, some 19, some 20, none, none, none, none, none, none, none, none, none, none, none, none, none, none, none, none, none, none, none, none, none, none, none, none, none, none, none, none, none, none, none, none, none, none, none, some 56, some 57, some 58, some 59, some 60, some 61, some 62, some 63, some 64, some 65, some 66, some 67, some 68, some 69, none, none, none, none, none, none, none, none, none, none, none, none, none, none, none, none, none, none, none, none, none, none, none, none, none, none, none, none, none, none, none, none, none, none, none, none, none, none, none, none, none, none, none, none, none, none, none, none, none, none, none, none, none, none, none, none, none, none, none, none, none, none, none, none, none, none, none, none, none, none, none, none, none, none, none] (by kernel_rfl) (by rfl) (jx := 11) (jy := 12) (jz := 13) (sx := 67) (sy := 68) (sz := 69) (A := 18) (B := 19) (c := 20) (zs := #[.int .u64 0, .int .u64 0, .int .u64 0, .int .u64 0, .int .i64 0, .int .i64 0]) (cx := #[.int .u64 cv, .int .u64 cm, .int .u64 cl, .int .u64 ch, .int .i64 ci, .int .i64 cj]) (cy := #[.int .u64 dv, .int .u64 dm, .int .u64 dl, .int .u64 dh, .int .i64 di, .int .i64 dj]) (t := 28) (vx := .agg #[.int .u64 cv, .int .u64 cm, .int .u64 cl, .int .u64 ch, .int .i64 ci, .int .i64 cj]) (vy := .agg #[.int .u64 dv, .int .u64 dm, .int .u64 dl, .int .u64 dh, .int .i64 di, .int .i64 dj]) (vz := .bool cb) rfl rfl rfl rfl rfl rfl rfl rfl rfl rfl (by kernel_rfl) (by kernel_rfl) (by kernel_rfl) rfl (by kernel_rfl) rfl (by kernel_rfl) rfl ?_ ?_ ?_ ?_ ?_ ?_
  · exact ⟨⟨rfl, trivial⟩, ⟨rfl, trivial⟩, trivial, trivial, ⟨rfl, trivial⟩, ⟨rfl, trivial⟩, ⟨rfl, trivial⟩, ⟨rfl, trivial⟩, trivial, trivial, trivial, trivial, trivial, trivial, trivial⟩
  · simp only [List.take_succ_cons, List.take_zero]
    refine ⟨fun a9 w9 hR hk hf => ?_, ?_⟩
    · simp only [KnowF, FreeF, and_true] at hk hf
      have e12 : a9.tmps[12]?.getD undef = .slice (some ⟨LB, 0, none⟩) 6 6 := freeF_ev hf
      exact flow_run (v := .slice (some ⟨LB, 0, none⟩) 6 6) (by go_simp) (But.refl _ _) (GV.of rfl)
    refine ⟨fun a9 w9 hR hk hf => ?_, ?_⟩
    · simp only [KnowF, FreeF, and_true] at hk hf
      have e14 : a9.tmps[14]?.getD undef = .int .i64 (i : Int) := freeF_ev hf
      exact flow_run (v := .int .i64 (i : Int)) (by go_simp) (But.refl _ _) (GV.of rfl)
    refine ⟨fun a9 w9 hR hk hf => ?_, ?_⟩
    · simp only [KnowF, FreeF, and_true] at hk hf
      have e57 := (hk.1).ev (v := .slice (some ⟨LB, 0, none⟩) 6 6) rfl
      have e58 := (hk.2).ev (v := .int .i64 (i : Int)) rfl
      have g0 := HI0.out
      have g1 := HI1.out
      exact flow_run (v := .pointer (some ⟨LB, i, none⟩)) (by go_simp) (But.refl _ _) (GV.of rfl)
    refine ⟨fun a9 w9 hR hk hf => ?_, ?_⟩
    · simp only [KnowF, FreeF, and_true] at hk hf
      have e59 := (hk).ev (v := .pointer (some ⟨LB, i, none⟩)) rfl
      have f0 := cell_but hR HOP.out (by simp)
      exact flow_run (v := .int .u8 (p : Int)) (by go_simp) (But.refl _ _) (GV.of rfl)
    refine ⟨fun a9 w9 hR hk hf => ?_, ?_⟩
    · simp only [KnowF, FreeF, and_true] at hk hf
      have e0 : a9.tmps[0]?.getD undef = .bool wide := freeF_ev hf
      exact flow_run (v := .bool wide) (by go_simp) (But.refl _ _) (GV.of rfl)
    refine ⟨fun a9 w9 hR hk hf => ?_, ?_⟩
    · simp only [KnowF, FreeF, and_true] at hk hf
      have e6 : a9.tmps[6]?.getD undef = .pointer (some ⟨ba, 0, none⟩) := freeF_ev hf
      have hh := hR.heap HA.out (by simp)
      have f0 := cl_of hh 0
      have f1 := cl_of hh 1
      have f2 := cl_of hh 2
      have f3 := cl_of hh 3
      have f4 := cl_of hh 4
      have f5 := cl_of hh 5
      simp only [List.getElem?_toArray, List.getElem?_cons_zero, List.getElem?_cons_succ] at f0 f1 f2 f3 f4 f5
      clear hh
      exact flow_run (v := .agg #[.int .u64 v, .int .u64 m, .int .u64 lo, .int .u64 hi, .int .i64 sl, .int .i64 sh]) (by go_simp) (But.refl _ _) (GV.of rfl)
    refine ⟨fun a9 w9 hR hk hf => ?_, ?_⟩
    · simp only [KnowF, FreeF, and_true] at hk hf
      have e7 : a9.tmps[7]?.getD undef = .pointer (some ⟨bx, 0, none⟩) := freeF_ev hf
      have hh := hR.heap HX.out (by simp)
      have f0 := cl_of hh 0
      have f1 := cl_of hh 1
      have f2 := cl_of hh 2
      have f3 := cl_of hh 3
      have f4 := cl_of hh 4
      have f5 := cl_of hh 5
      simp only [List.getElem?_toArray, List.getElem?_cons_zero, List.getElem?_cons_succ] at f0 f1 f2 f3 f4 f5
      clear hh
      exact flow_run (v := .agg #[.int .u64 xv, .int .u64 xm, .int .u64 xlo, .int .u64 xhi, .int .i64 xsl, .int .i64 xsh]) (by go_simp) (But.refl _ _) (GV.of rfl)
    refine ⟨fun a9 w9 hR hk hf => ?_, ?_⟩
    · simp only [KnowF, FreeF, and_true] at hk hf
      have e4 : a9.tmps[4]?.getD undef = .bool tk := freeF_ev hf
      exact flow_run (v := .bool tk) (by go_simp) (But.refl _ _) (GV.of rfl)
    refine ⟨fun a9 w9 hR hk hf => ?_, ?_⟩
    · simp only [KnowF, FreeF, and_true] at hk hf
      have e64 := (hk).ev (v := .bool tk) rfl
      exact flow_run (v := .bool (!tk)) (by go_simp) (But.refl _ _) (GV.of rfl)
    refine ⟨fun a9 w9 hR hk hf => ?_, ?_⟩
    · simp only [KnowF, FreeF, and_true] at hk hf
      have e60 := (hk.1).ev (v := .int .u8 (p : Int)) rfl
      have e61 := (hk.2.1).ev (v := .bool wide) rfl
      have e62 := (hk.2.2.1).ev (v := .agg #[.int .u64 v, .int .u64 m, .int .u64 lo, .int .u64 hi, .int .i64 sl, .int .i64 sh]) rfl
      have e63 := (hk.2.2.2.1).ev (v := .agg #[.int .u64 xv, .int .u64 xm, .int .u64 xlo, .int .u64 xhi, .int .i64 xsl, .int .i64 xsh]) rfl
      have e65 := (hk.2.2.2.2).ev (v := .bool (!tk)) rfl
      exact flow_call (f := 12) (args := #[.int .u8 (p : Int), .bool wide, .agg #[.int .u64 v, .int .u64 m, .int .u64 lo, .int .u64 hi, .int .i64 sl, .int .i64 sh], .agg #[.int .u64 xv, .int .u64 xm, .int .u64 xlo, .int .u64 xhi, .int .i64 xsl, .int .i64 xsh], .bool (!tk)]) (by go_simp) ((HBR.out _).mono (by rintro e w' ⟨rfl, hb⟩; exact ⟨_, rfl, hb, GV.of rfl⟩))
    refine ⟨fun a9 w9 hR hk hf => ?_, ?_⟩
    · simp only [KnowF, FreeF, and_true] at hk hf
      have e66 := (hk).ev (v := .tuple #[.agg #[.int .u64 cv, .int .u64 cm, .int .u64 cl, .int .u64 ch, .int .i64 ci, .int .i64 cj], .agg #[.int .u64 dv, .int .u64 dm, .int .u64 dl, .int .u64 dh, .int .i64 di, .int .i64 dj], .bool cb]) rfl
      exact flow_run (v := .tuple #[.agg #[.int .u64 cv, .int .u64 cm, .int .u64 cl, .int .u64 ch, .int .i64 ci, .int .i64 cj], .agg #[.int .u64 dv, .int .u64 dm, .int .u64 dl, .int .u64 dh, .int .i64 di, .int .i64 dj], .bool cb]) (by go_simp) (But.refl _ _) (GV.of rfl)
    refine ⟨fun a9 w9 hR hk hf => ?_, ?_⟩
    · simp only [KnowF, FreeF, and_true] at hk hf
      have e56 := (hk).ev (v := .tuple #[.agg #[.int .u64 cv, .int .u64 cm, .int .u64 cl, .int .u64 ch, .int .i64 ci, .int .i64 cj], .agg #[.int .u64 dv, .int .u64 dm, .int .u64 dl, .int .u64 dh, .int .i64 di, .int .i64 dj], .bool cb]) rfl
      exact flow_run (v := .agg #[.int .u64 cv, .int .u64 cm, .int .u64 cl, .int .u64 ch, .int .i64 ci, .int .i64 cj]) (by go_simp) (But.refl _ _) (GV.of rfl)
    refine ⟨fun a9 w9 hR hk hf => ?_, ?_⟩
    · simp only [KnowF, FreeF, and_true] at hk hf
      have e56 := (hk).ev (v := .tuple #[.agg #[.int .u64 cv, .int .u64 cm, .int .u64 cl, .int .u64 ch, .int .i64 ci, .int .i64 cj], .agg #[.int .u64 dv, .int .u64 dm, .int .u64 dl, .int .u64 dh, .int .i64 di, .int .i64 dj], .bool cb]) rfl
      exact flow_run (v := .agg #[.int .u64 dv, .int .u64 dm, .int .u64 dl, .int .u64 dh, .int .i64 di, .int .i64 dj]) (by go_simp) (But.refl _ _) (GV.of rfl)
    refine ⟨fun a9 w9 hR hk hf => ?_, ?_⟩
    · simp only [KnowF, FreeF, and_true] at hk hf
      have e56 := (hk).ev (v := .tuple #[.agg #[.int .u64 cv, .int .u64 cm, .int .u64 cl, .int .u64 ch, .int .i64 ci, .int .i64 cj], .agg #[.int .u64 dv, .int .u64 dm, .int .u64 dl, .int .u64 dh, .int .i64 di, .int .i64 dj], .bool cb]) rfl
      exact flow_run (v := .bool cb) (by go_simp) (But.refl _ _) (GV.of rfl)
    exact trivial
  · exact fun a w => pair_alloc (v := ptr0 w.heap.size) (by unfold ptr0; go_simp)
  · exact fun a w => pair_alloc (v := ptr0 w.heap.size) (by unfold ptr0; go_simp)
  · intro a w k e1 e2 h
    unfold ptr0 at e1
    have f0 := fz_of h 0
    have f1 := fz_of h 1
    have f2 := fz_of h 2
    have f3 := fz_of h 3
    have f4 := fz_of h 4
    have f5 := fz_of h 5
    have c0 := cl_of h 0
    have c1 := cl_of h 1
    have c2 := cl_of h 2
    have c3 := cl_of h 3
    have c4 := cl_of h 4
    have c5 := cl_of h 5
    simp only [List.getElem?_toArray, List.getElem?_cons_zero, List.getElem?_cons_succ] at c0 c1 c2 c3 c4 c5 f0 f1 f2 f3 f4 f5
    exact pair_store rfl (w' := ((((((w.setCell ⟨k, 0, none⟩ (.int .u64 cv)).setCell ⟨k, 1, none⟩ (.int .u64 cm)).setCell ⟨k, 2, none⟩ (.int .u64 cl)).setCell ⟨k, 3, none⟩ (.int .u64 ch)).setCell ⟨k, 4, none⟩ (.int .i64 ci)).setCell ⟨k, 5, none⟩ (.int .i64 cj))) (by go_simp) but6x (set6x h)
  · intro a w k e1 e2 h
    unfold ptr0 at e1
    have f0 := fz_of h 0
    have f1 := fz_of h 1
    have f2 := fz_of h 2
    have f3 := fz_of h 3
    have f4 := fz_of h 4
    have f5 := fz_of h 5
    have c0 := cl_of h 0
    have c1 := cl_of h 1
    have c2 := cl_of h 2
    have c3 := cl_of h 3
    have c4 := cl_of h 4
    have c5 := cl_of h 5
    simp only [List.getElem?_toArray, List.getElem?_cons_zero, List.getElem?_cons_succ] at c0 c1 c2 c3 c4 c5 f0 f1 f2 f3 f4 f5
    exact pair_store rfl (w' := ((((((w.setCell ⟨k, 0, none⟩ (.int .u64 dv)).setCell ⟨k, 1, none⟩ (.int .u64 dm)).setCell ⟨k, 2, none⟩ (.int .u64 dl)).setCell ⟨k, 3, none⟩ (.int .u64 dh)).setCell ⟨k, 4, none⟩ (.int .i64 di)).setCell ⟨k, 5, none⟩ (.int .i64 dj))) (by go_simp) but6x (set6x h)
  · intro a w e
    exact pair_alloc (v := .bool cb) (by go_simp)
  · intro f w kA kB hb eA eB ec h1 h2 h3 h4 h5
    show Q .normal { tmps := List.toArray (.bool wide :: u1 :: u2 :: u3 :: .bool tk :: u5 :: .pointer (some ⟨ba, 0, none⟩) :: .pointer (some ⟨bx, 0, none⟩) :: u8 :: u9 :: u10 :: u11 :: .slice (some ⟨LB, 0, none⟩) 6 6 :: u13 :: .int .i64 (i : Int) :: u15 :: u16 :: u17 :: f 18 :: f 19 :: f 20 :: u21 :: u22 :: u23 :: u24 :: u25 :: u26 :: u27 :: u28 :: u29 :: u30 :: u31 :: u32 :: u33 :: u34 :: u35 :: u36 :: u37 :: u38 :: u39 :: u40 :: u41 :: u42 :: u43 :: u44 :: u45 :: u46 :: u47 :: u48 :: u49 :: u50 :: u51 :: u52 :: u53 :: u54 :: u55 :: f 56 :: f 57 :: f 58 :: f 59 :: f 60 :: f 61 :: f 62 :: f 63 :: f 64 :: f 65 :: f 66 :: f 67 :: f 68 :: f 69 :: u70 :: u71 :: u72 :: u73 :: u74 :: u75 :: u76 :: u77 :: u78 :: u79 :: u80 :: u81 :: u82 :: u83 :: u84 :: u85 :: u86 :: u87 :: u88 :: u89 :: u90 :: u91 :: u92 :: u93 :: u94 :: u95 :: u96 :: u97 :: u98 :: u99 :: u100 :: u101 :: u102 :: u103 :: u104 :: u105 :: u106 :: u107 :: u108 :: u109 :: u110 :: u111 :: u112 :: u113 :: u114 :: u115 :: u116 :: u117 :: u118 :: u119 :: u120 :: u121 :: u122 :: u123 :: u124 :: u125 :: u126 :: u127 :: u128 :: u129 :: u130 :: u131 :: u132 :: u133 :: u134 :: u135 :: u136 :: u137 :: u138 :: u139 :: u140 :: u141 :: u142 :: u143 :: u144 :: []), defers := [] } w
    unfold ptr0 at eA eB
    rw [eA, eB, ec]
    exact HQ.out _ _ _ _ _ _ _ _ _ _ _ _ _ _ _ _ _ hb h1 h2 h3 h4 h5
noncomputable def code_tu14 : Code := ((Try.f5.body.getD .skip |> regionR 14).getD .skip)
set_option maxRecDepth 100000 in
set_option maxHeartbeats 8000000 in
theorem tu14 (Q : Exit → Act → World → Prop) {wr : World} {v m lo hi xv xm xlo xhi cv cm cl ch dv dm dl dh : Nat} {sl sh xsl xsh ci cj di dj : Int} {cb : Bool} {wide tk : Bool} {LB i p : Nat} {ba bx : Nat} (HI0 : Hid ((0 : Int) ≤ (i : Int))) (HI1 : Hid ((i : Int) < 6)) (HA : Hid (wr.heap[ba]? = some (.cells #[.int .u64 v, .int .u64 m, .int .u64 lo, .int .u64 hi, .int .i64 sl, .int .i64 sh] 28))) (HX : Hid (wr.heap[bx]? = some (.cells #[.int .u64 xv, .int .u64 xm, .int .u64 xlo, .int .u64 xhi, .int .i64 xsl, .int .i64 xsh] 28))) (HOP : Hid (wr.cell? ⟨LB, i, none⟩ = some (.int .u8 (p : Int)))) (HBR : Hid (∀ w, Calls Try.prog 12 #[.int .u8 (p : Int), .bool wide, .agg #[.int .u64 xv, .int .u64 xm, .int .u64 xlo, .int .u64 xhi, .int .i64 xsl, .int .i64 xsh], .agg #[.int .u64 v, .int .u64 m, .int .u64 lo, .int .u64 hi, .int .i64 sl, .int .i64 sh], .bool tk] w fun e w' => e = .returned (.tuple #[.agg #[.int .u64 cv, .int .u64 cm, .int .u64 cl, .int .u64 ch, .int .i64 ci, .int .i64 cj], .agg #[.int .u64 dv, .int .u64 dm, .int .u64 dl, .int .u64 dh, .int .i64 di, .int .i64 dj], .bool cb]) ∧ But [] w w')) {u1 u2 u3 u5 u8 u9 u10 u11 u12 u15 u16 u17 u18 u19 u20 u21 u22 u23 u24 u25 u26 u27 u28 u29 u30 u31 u32 u33 u34 u35 u36 u37 u38 u39 u40 u41 u42 u43 u44 u45 u46 u47 u48 u49 u50 u51 u52 u53 u54 u55 u56 u57 u58 u59 u60 u61 u62 u63 u64 u65 u66 u67 u68 u69 u70 u71 u72 u73 u74 u75 u76 u77 u78 u79 u80 u81 u82 u83 u84 u85 u86 u87 u88 u89 u90 u91 u92 u93 u94 u95 u96 u97 u98 u99 u100 u101 u102 u103 u104 u105 u106 u107 u108 u109 u110 u111 u112 u113 u114 u115 u116 u117 u118 u119 u120 u121 u122 u123 u124 u125 u126 u127 u128 u129 u130 u131 u132 u133 u134 u135 u136 u137 u138 u139 u140 u141 u142 u143 u144 : Value} (hQ : ∀ (z84 z85 z86 z87 z88 z89 z90 z91 z92 z83 z93 z94 z95 : Value) (w6 : World) (k l : Nat), But [] wr w6 → wr.heap.size ≤ k → wr.heap.size ≤ l → k ≠ l → w6.heap[k]? = some (.cells #[.int .u64 cv, .int .u64 cm, .int .u64 cl, .int .u64 ch, .int .i64 ci, .int .i64 cj] 28) → w6.heap[l]? = some (.cells #[.int .u64 dv, .int .u64 dm, .int .u64 dl, .int .u64 dh, .int .i64 di, .int .i64 dj] 28) → Q .normal { tmps := List.toArray (.bool wide :: u1 :: u2 :: u3 :: .bool tk :: u5 :: .pointer (some ⟨ba, 0, none⟩) :: .pointer (some ⟨bx, 0, none⟩) :: u8 :: u9 :: u10 :: u11 :: u12 :: .slice (some ⟨LB, 0, none⟩) 6 6 :: .int .i64 (i : Int) :: u15 :: u16 :: u17 :: u18 :: u19 :: u20 :: .pointer (some ⟨k, 0, none⟩) :: .pointer (some ⟨l, 0, none⟩) :: .bool cb :: u24 :: u25 :: u26 :: u27 :: u28 :: u29 :: u30 :: u31 :: u32 :: u33 :: u34 :: u35 :: u36 :: u37 :: u38 :: u39 :: u40 :: u41 :: u42 :: u43 :: u44 :: u45 :: u46 :: u47 :: u48 :: u49 :: u50 :: u51 :: u52 :: u53 :: u54 :: u55 :: u56 :: u57 :: u58 :: u59 :: u60 :: u61 :: u62 :: u63 :: u64 :: u65 :: u66 :: u67 :: u68 :: u69 :: u70 :: u71 :: u72 :: u73 :: u74 :: u75 :: u76 :: u77 :: u78 :: u79 :: u80 :: u81 :: u82 :: z83 :: z84 :: z85 :: z86 :: z87 :: z88 :: z89 :: z90 :: z91 :: z92 :: z93 :: z94 :: z95 :: u96 :: u97 :: u98 :: u99 :: u100 :: u101 :: u102 :: u103 :: u104 :: u105 :: u106 :: u107 :: u108 :: u109 :: u110 :: u111 :: u112 :: u113 :: u114 :: u115 :: u116 :: u117 :: u118 :: u119 :: u120 :: u121 :: u122 :: u123 :: u124 :: u125 :: u126 :: u127 :: u128 :: u129 :: u130 :: u131 :: u132 :: u133 :: u134 :: u135 :: u136 :: u137 :: u138 :: u139 :: u140 :: u141 :: u142 :: u143 :: u144 :: []), defers := [] } w6) :
    Code.wp Try.prog code_tu14 Q { tmps := List.toArray (.bool wide :: u1 :: u2 :: u3 :: .bool tk :: u5 :: .pointer (some ⟨ba, 0, none⟩) :: .pointer (some ⟨bx, 0, none⟩) :: u8 :: u9 :: u10 :: u11 :: u12 :: .slice (some ⟨LB, 0, none⟩) 6 6 :: .int .i64 (i : Int) :: u15 :: u16 :: u17 :: u18 :: u19 :: u20 :: u21 :: u22 :: u23 :: u24 :: u25 :: u26 :: u27 :: u28 :: u29 :: u30 :: u31 :: u32 :: u33 :: u34 :: u35 :: u36 :: u37 :: u38 :: u39 :: u40 :: u41 :: u42 :: u43 :: u44 :: u45 :: u46 :: u47 :: u48 :: u49 :: u50 :: u51 :: u52 :: u53 :: u54 :: u55 :: u56 :: u57 :: u58 :: u59 :: u60 :: u61 :: u62 :: u63 :: u64 :: u65 :: u66 :: u67 :: u68 :: u69 :: u70 :: u71 :: u72 :: u73 :: u74 :: u75 :: u76 :: u77 :: u78 :: u79 :: u80 :: u81 :: u82 :: u83 :: u84 :: u85 :: u86 :: u87 :: u88 :: u89 :: u90 :: u91 :: u92 :: u93 :: u94 :: u95 :: u96 :: u97 :: u98 :: u99 :: u100 :: u101 :: u102 :: u103 :: u104 :: u105 :: u106 :: u107 :: u108 :: u109 :: u110 :: u111 :: u112 :: u113 :: u114 :: u115 :: u116 :: u117 :: u118 :: u119 :: u120 :: u121 :: u122 :: u123 :: u124 :: u125 :: u126 :: u127 :: u128 :: u129 :: u130 :: u131 :: u132 :: u133 :: u134 :: u135 :: u136 :: u137 :: u138 :: u139 :: u140 :: u141 :: u142 :: u143 :: u144 :: []), defers := [] } wr := by
  have HQ := Lib.hid hQ
  clear hQ
  conv => arg 2; whnf
  refine wp_region_pair 13 (by kernel_rfl) (by kernel_rfl) [.slice (some ⟨LB, 0, none⟩) 6 6, .int .i64 (i : Int), .pointer (some ⟨LB, i, none⟩), .int .u8 (p : Int), .bool wide, .agg #[.int .u64 xv, .int .u64 xm, .int .u64 xlo, .int .u64 xhi, .int .i64 xsl, .int .i64 xsh], .agg #[.int .u64 v, .int .u64 m, .int .u64 lo, .int .u64 hi, .int .i64 sl, .int .i64 sh], .bool tk, .tuple #[.agg #[.int .u64 cv, .int .u64 cm, .int .u64 cl, .int .u64 ch, .int .i64 ci, .int .i64 cj], .agg #[.int .u64 dv, .int .u64 dm, .int .u64 dl, .int .u64 dh, .int .i64 di, .int .i64 dj], .bool cb], .tuple #[.agg #[.int .u64 cv, .int .u64 cm, .int .u64 cl, .int .u64 ch, .int .i64 ci, .int .i64 cj], .agg #[.int .u64 dv, .int .u64 dm, .int .u64 dl, .int .u64 dh, .int .i64 di, .int .i64 dj], .bool cb], .agg #[.int .u64 cv, .int .u64 cm, .int .u64 cl, .int .u64 ch, .int .i64 ci, .int .i64 cj], .agg #[.int .u64 dv, .int .u64 dm, .int .u64 dl, .int .u64 dh, .int .i64 di, .int .i64 dj], .bool cb] [[], [], [(0, 84), (1, 85)], [(2, 86)], [], [], [], [], [(3, 87), (4, 88), (5, 89), (6, 90), (7, 91)], [(8, 92)], [(9, 83)], [(9, 83)], [(9, 83)]] [[(13, .slice (some ⟨LB, 0, none⟩) 6 6)], [(14, .int .i64 (i : Int))], [], [], [(0, .bool wide)], [(7, .pointer (some ⟨bx, 0, none⟩))], [(6, .pointer (some ⟨ba, 0, none⟩))], [(4, .bool tk)], [], [], [], [], []] (by kernel_rfl) (by kernel_rfl) (by kernel_rfl) ?_ ?_ [none, none, none, none, none, none, none, none, none, none, none, none, none, none, none, none, none, none, none, none, none, some 21, some 22, some 23, none, none, none, none, none, none, none, none, none, none, none, none, none, none, none, none, none, none, none, none, none, none, none, none, none, none, none, none, none, none, none, none, none, none, none, none, none, none, none, none, none, none, none, none, none, none, none, none, none, none, none, none, none, none, none, none, none, none, none, some 83, some 84, some 85, some 86, some 87, some 88, some 89, some 90, some 91, some 92, some 93, some 94, some 95, none, none, none, none, none, none, none, none, none, none, none, none, none, none, none, none, none, none, none, none, none, none, none, none, none, none, none, none, none, none, none, none, none, none, none, none, none, none, none, none, none, none, none, none, none, none, none, none, none] (by kernel_rfl) (by rfl) (jx := 10) (jy := 11) (jz := 12) (sx := 93) (sy := 94) (sz := 95) (A := 21) (B := 22) (c := 23) (zs := #[.int .u64 0, .int .u64 0, .int .u64 0, .int .u64 0, .int .i64 0, .int .i64 0]) (cx := #[.int .u64 cv, .int .u64 cm, .int .u64 cl, .int .u64 ch, .int .i64 ci, .int .i64 cj]) (cy := #[.int .u64 dv, .int .u64 dm, .int .u64 dl, .int .u64 dh, .int .i64 di, .int .i64 dj]) (t := 28) (vx := .agg #[.int .u64 cv, .int .u64 cm, .int .u64 cl, .int .u64 ch, .int .i64 ci, .int .i64 cj]) (vy := .agg #[.int .u64 dv, .int .u64 dm, .int .u64 dl, .int .u64 dh, .int .i64 di, .int .i64 dj]) (vz := .bool cb) rfl rfl rfl rfl rfl rfl rfl rfl rfl rfl (by kernel_rfl) (by kernel_rfl) (by kernel_rfl) rfl (by kernel_rfl) rfl (by kernel_rfl) rfl ?_ ?_ ?_ ?_ ?_ ?_
  · exact ⟨⟨rfl, trivial⟩, ⟨rfl, trivial⟩, trivial, trivial, ⟨rfl, trivial⟩, ⟨rfl, trivial⟩, ⟨rfl, trivial⟩, ⟨rfl, trivial⟩, trivial, trivial, trivial, trivial, trivial, trivial⟩
  · simp only [List.take_succ_cons, List.take_zero]
    refine ⟨fun a9 w9 hR hk hf => ?_, ?_⟩
    · simp only [KnowF, FreeF, and_true] at hk hf
      have e13 : a9.tmps[13]?.getD undef = .slice (some ⟨LB, 0, none⟩) 6 6 := freeF_ev hf
      exact flow_run (v := .slice (some ⟨LB, 0, none⟩) 6 6) (by go_simp) (But.refl _ _) (GV.of rfl)
    refine ⟨fun a9 w9 hR hk hf => ?_, ?_⟩
    · simp only [KnowF, FreeF, and_true] at hk hf
      have e14 : a9.tmps[14]?.getD undef = .int .i64 (i : Int) := freeF_ev hf
      exact flow_run (v := .int .i64 (i : Int)) (by go_simp) (But.refl _ _) (GV.of rfl)
    refine ⟨fun a9 w9 hR hk hf => ?_, ?_⟩
    · simp only [KnowF, FreeF, and_true] at hk hf
      have e84 := (hk.1).ev (v := .slice (some ⟨LB, 0, none⟩) 6 6) rfl
      have e85 := (hk.2).ev (v := .int .i64 (i : Int)) rfl
      have g0 := HI0.out
      have g1 := HI1.out
      exact flow_run (v := .pointer (some ⟨LB, i, none⟩)) (by go_simp) (But.refl _ _) (GV.of rfl)
    refine ⟨fun a9 w9 hR hk hf => ?_, ?_⟩
    · simp only [KnowF, FreeF, and_true] at hk hf
      have e86 := (hk).ev (v := .pointer (some ⟨LB, i, none⟩)) rfl
      have f0 := cell_but hR HOP.out (by simp)
      exact flow_run (v := .int .u8 (p : Int)) (by go_simp) (But.refl _ _) (GV.of rfl)
    refine ⟨fun a9 w9 hR hk hf => ?_, ?_⟩
    · simp only [KnowF, FreeF, and_true] at hk hf
      have e0 : a9.tmps[0]?.getD undef = .bool wide := freeF_ev hf
      exact flow_run (v := .bool wide) (by go_simp) (But.refl _ _) (GV.of rfl)
    refine ⟨fun a9 w9 hR hk hf => ?_, ?_⟩
    · simp only [KnowF, FreeF, and_true] at hk hf
      have e7 : a9.tmps[7]?.getD undef = .pointer (some ⟨bx, 0, none⟩) := freeF_ev hf
      have hh := hR.heap HX.out (by simp)
      have f0 := cl_of hh 0
      have f1 := cl_of hh 1
      have f2 := cl_of hh 2
      have f3 := cl_of hh 3
      have f4 := cl_of hh 4
      have f5 := cl_of hh 5
      simp only [List.getElem?_toArray, List.getElem?_cons_zero, List.getElem?_cons_succ] at f0 f1 f2 f3 f4 f5
      clear hh
      exact flow_run (v := .agg #[.int .u64 xv, .int .u64 xm, .int .u64 xlo, .int .u64 xhi, .int .i64 xsl, .int .i64 xsh]) (by go_simp) (But.refl _ _) (GV.of rfl)
    refine ⟨fun a9 w9 hR hk hf => ?_, ?_⟩
    · simp only [KnowF, FreeF, and_true] at hk hf
      have e6 : a9.tmps[6]?.getD undef = .pointer (some ⟨ba, 0, none⟩) := freeF_ev hf
      have hh := hR.heap HA.out (by simp)
      have f0 := cl_of hh 0
      have f1 := cl_of hh 1
      have f2 := cl_of hh 2
      have f3 := cl_of hh 3
      have f4 := cl_of hh 4
      have f5 := cl_of hh 5
      simp only [List.getElem?_toArray, List.getElem?_cons_zero, List.getElem?_cons_succ] at f0 f1 f2 f3 f4 f5
      clear hh
      exact flow_run (v := .agg #[.int .u64 v, .int .u64 m, .int .u64 lo, .int .u64 hi, .int .i64 sl, .int .i64 sh]) (by go_simp) (But.refl _ _) (GV.of rfl)
    refine ⟨fun a9 w9 hR hk hf => ?_, ?_⟩
    · simp only [KnowF, FreeF, and_true] at hk hf
      have e4 : a9.tmps[4]?.getD undef = .bool tk := freeF_ev hf
      exact flow_run (v := .bool tk) (by go_simp) (But.refl _ _) (GV.of rfl)
    refine ⟨fun a9 w9 hR hk hf => ?_, ?_⟩
    · simp only [KnowF, FreeF, and_true] at hk hf
      have e87 := (hk.1).ev (v := .int .u8 (p : Int)) rfl
      have e88 := (hk.2.1).ev (v := .bool wide) rfl
      have e89 := (hk.2.2.1).ev (v := .agg #[.int .u64 xv, .int .u64 xm, .int .u64 xlo, .int .u64 xhi, .int .i64 xsl, .int .i64 xsh]) rfl
      have e90 := (hk.2.2.2.1).ev (v := .agg #[.int .u64 v, .int .u64 m, .int .u64 lo, .int .u64 hi, .int .i64 sl, .int .i64 sh]) rfl
      have e91 := (hk.2.2.2.2).ev (v := .bool tk) rfl
      exact flow_call (f := 12) (args := #[.int .u8 (p : Int), .bool wide, .agg #[.int .u64 xv, .int .u64 xm, .int .u64 xlo, .int .u64 xhi, .int .i64 xsl, .int .i64 xsh], .agg #[.int .u64 v, .int .u64 m, .int .u64 lo, .int .u64 hi, .int .i64 sl, .int .i64 sh], .bool tk]) (by go_simp) ((HBR.out _).mono (by rintro e w' ⟨rfl, hb⟩; exact ⟨_, rfl, hb, GV.of rfl⟩))
    refine ⟨fun a9 w9 hR hk hf => ?_, ?_⟩
    · simp only [KnowF, FreeF, and_true] at hk hf
      have e92 := (hk).ev (v := .tuple #[.agg #[.int .u64 cv, .int .u64 cm, .int .u64 cl, .int .u64 ch, .int .i64 ci, .int .i64 cj], .agg #[.int .u64 dv, .int .u64 dm, .int .u64 dl, .int .u64 dh, .int .i64 di, .int .i64 dj], .bool cb]) rfl
      exact flow_run (v := .tuple #[.agg #[.int .u64 cv, .int .u64 cm, .int .u64 cl, .int .u64 ch, .int .i64 ci, .int .i64 cj], .agg #[.int .u64 dv, .int .u64 dm, .int .u64 dl, .int .u64 dh, .int .i64 di, .int .i64 dj], .bool cb]) (by go_simp) (But.refl _ _) (GV.of rfl)
    refine ⟨fun a9 w9 hR hk hf => ?_, ?_⟩
    · simp only [KnowF, FreeF, and_true] at hk hf
      have e83 := (hk).ev (v := .tuple #[.agg #[.int .u64 cv, .int .u64 cm, .int .u64 cl, .int .u64 ch, .int .i64 ci, .int .i64 cj], .agg #[.int .u64 dv, .int .u64 dm, .int .u64 dl, .int .u64 dh, .int .i64 di, .int .i64 dj], .bool cb]) rfl
      exact flow_run (v := .agg #[.int .u64 cv, .int .u64 cm, .int .u64 cl, .int .u64 ch, .int .i64 ci, .int .i64 cj]) (by go_simp) (But.refl _ _) (GV.of rfl)
    refine ⟨fun a9 w9 hR hk hf => ?_, ?_⟩
    · simp only [KnowF, FreeF, and_true] at hk hf
      have e83 := (hk).ev (v := .tuple #[.agg #[.int .u64 cv, .int .u64 cm, .int .u64 cl, .int .u64 ch, .int .i64 ci, .int .i64 cj], .agg #[.int .u64 dv, .int .u64 dm, .int .u64 dl, .int .u64 dh, .int .i64 di, .int .i64 dj], .bool cb]) rfl
      exact flow_run (v := .agg #[.int .u64 dv, .int .u64 dm, .int .u64 dl, .int .u64 dh, .int .i64 di, .int .i64 dj]) (by go_simp) (But.refl _ _) (GV.of rfl)
    refine ⟨fun a9 w9 hR hk hf => ?_, ?_⟩
    · simp only [KnowF, FreeF, and_true] at hk hf
      have e83 := (hk).ev (v := .tuple #[.agg #[.int .u64 cv, .int .u64 cm, .int .u64 cl, .int .u64 ch, .int .i64 ci, .int .i64 cj], .agg #[.int .u64 dv, .int .u64 dm, .int .u64 dl, .int .u64 dh, .int .i64 di, .int .i64 dj], .bool cb]) rfl
      exact flow_run (v := .bool cb) (by go_simp) (But.refl _ _) (GV.of rfl)
    exact trivial
  · exact fun a w => pair_alloc (v := ptr0 w.heap.size) (by unfold ptr0; go_simp)
  · exact fun a w => pair_alloc (v := ptr0 w.heap.size) (by unfold ptr0; go_simp)
  · intro a w k e1 e2 h
    unfold ptr0 at e1
    have f0 := fz_of h 0
    have f1 := fz_of h 1
    have f2 := fz_of h 2
    have f3 := fz_of h 3
    have f4 := fz_of h 4
    have f5 := fz_of h 5
    have c0 := cl_of h 0
    have c1 := cl_of h 1
    have c2 := cl_of h 2
    have c3 := cl_of h 3
    have c4 := cl_of h 4
    have c5 := cl_of h 5
    simp only [List.getElem?_toArray, List.getElem?_cons_zero, List.getElem?_cons_succ] at c0 c1 c2 c3 c4 c5 f0 f1 f2 f3 f4 f5
    exact pair_store rfl (w' := ((((((w.setCell ⟨k, 0, none⟩ (.int .u64 cv)).setCell ⟨k, 1, none⟩ (.int .u64 cm)).setCell ⟨k, 2, none⟩ (.int .u64 cl)).setCell ⟨k, 3, none⟩ (.int .u64 ch)).setCell ⟨k, 4, none⟩ (.int .i64 ci)).setCell ⟨k, 5, none⟩ (.int .i64 cj))) (by go_simp) but6x (set6x h)
  · intro a w k e1 e2 h
    unfold ptr0 at e1
    have f0 := fz_of h 0
    have f1 := fz_of h 1
    have f2 := fz_of h 2
    have f3 := fz_of h 3
    have f4 := fz_of h 4
    have f5 := fz_of h 5
    have c0 := cl_of h 0
    have c1 := cl_of h 1
    have c2 := cl_of h 2
    have c3 := cl_of h 3
    have c4 := cl_of h 4
    have c5 := cl_of h 5
    simp only [List.getElem?_toArray, List.getElem?_cons_zero, List.getElem?_cons_succ] at c0 c1 c2 c3 c4 c5 f0 f1 f2 f3 f4 f5
    exact pair_store rfl (w' := ((((((w.setCell ⟨k, 0, none⟩ (.int .u64 dv)).setCell ⟨k, 1, none⟩ (.int .u64 dm)).setCell ⟨k, 2, none⟩ (.int .u64 dl)).setCell ⟨k, 3, none⟩ (.int .u64 dh)).setCell ⟨k, 4, none⟩ (.int .i64 di)).setCell ⟨k, 5, none⟩ (.int .i64 dj))) (by go_simp) but6x (set6x h)
  · intro a w e
    exact pair_alloc (v := .bool cb) (by go_simp)
  · intro f w kA kB hb eA eB ec h1 h2 h3 h4 h5
    show Q .normal { tmps := List.toArray (.bool wide :: u1 :: u2 :: u3 :: .bool tk :: u5 :: .pointer (some ⟨ba, 0, none⟩) :: .pointer (some ⟨bx, 0, none⟩) :: u8 :: u9 :: u10 :: u11 :: u12 :: .slice (some ⟨LB, 0, none⟩) 6 6 :: .int .i64 (i : Int) :: u15 :: u16 :: u17 :: u18 :: u19 :: u20 :: f 21 :: f 22 :: f 23 :: u24 :: u25 :: u26 :: u27 :: u28 :: u29 :: u30 :: u31 :: u32 :: u33 :: u34 :: u35 :: u36 :: u37 :: u38 :: u39 :: u40 :: u41 :: u42 :: u43 :: u44 :: u45 :: u46 :: u47 :: u48 :: u49 :: u50 :: u51 :: u52 :: u53 :: u54 :: u55 :: u56 :: u57 :: u58 :: u59 :: u60 :: u61 :: u62 :: u63 :: u64 :: u65 :: u66 :: u67 :: u68 :: u69 :: u70 :: u71 :: u72 :: u73 :: u74 :: u75 :: u76 :: u77 :: u78 :: u79 :: u80 :: u81 :: u82 :: f 83 :: f 84 :: f 85 :: f 86 :: f 87 :: f 88 :: f 89 :: f 90 :: f 91 :: f 92 :: f 93 :: f 94 :: f 95 :: u96 :: u97 :: u98 :: u99 :: u100 :: u101 :: u102 :: u103 :: u104 :: u105 :: u106 :: u107 :: u108 :: u109 :: u110 :: u111 :: u112 :: u113 :: u114 :: u115 :: u116 :: u117 :: u118 :: u119 :: u120 :: u121 :: u122 :: u123 :: u124 :: u125 :: u126 :: u127 :: u128 :: u129 :: u130 :: u131 :: u132 :: u133 :: u134 :: u135 :: u136 :: u137 :: u138 :: u139 :: u140 :: u141 :: u142 :: u143 :: u144 :: []), defers := [] } w
    unfold ptr0 at eA eB
    rw [eA, eB, ec]
    exact HQ.out _ _ _ _ _ _ _ _ _ _ _ _ _ _ _ _ hb h1 h2 h3 h4 h5
noncomputable def code_tu18 : Code := ((Try.f5.body.getD .skip |> regionR 18).getD .skip)
set_option maxRecDepth 100000 in
set_option maxHeartbeats 8000000 in
theorem tu18 (Q : Exit → Act → World → Prop) {wr : World} {v m lo hi xv xm xlo xhi cv cm cl ch dv dm dl dh : Nat} {sl sh xsl xsh ci cj di dj : Int} {cb : Bool} {wide tk : Bool} {LB i p : Nat} {bx by_ : Nat} {yv ym ylo yhi : Nat} {ysl ysh : Int} (HI0 : Hid ((0 : Int) ≤ (i : Int))) (HI1 : Hid ((i : Int) < 6)) (HX : Hid (wr.heap[bx]? = some (.cells #[.int .u64 xv, .int .u64 xm, .int .u64 xlo, .int .u64 xhi, .int .i64 xsl, .int .i64 xsh] 28))) (HY : Hid (wr.heap[by_]? = some (.cells #[.int .u64 yv, .int .u64 ym, .int .u64 ylo, .int .u64 yhi, .int .i64 ysl, .int .i64 ysh] 28))) (HOP : Hid (wr.cell? ⟨LB, i, none⟩ = some (.int .u8 (p : Int)))) (HBR : Hid (∀ w, Calls Try.prog 12 #[.int .u8 (p : Int), .bool wide, .agg #[.int .u64 yv, .int .u64 ym, .int .u64 ylo, .int .u64 yhi, .int .i64 ysl, .int .i64 ysh], .agg #[.int .u64 xv, .int .u64 xm, .int .u64 xlo, .int .u64 xhi, .int .i64 xsl, .int .i64 xsh], .bool tk] w fun e w' => e = .returned (.tuple #[.agg #[.int .u64 cv, .int .u64 cm, .int .u64 cl, .int .u64 ch, .int .i64 ci, .int .i64 cj], .agg #[.int .u64 dv, .int .u64 dm, .int .u64 dl, .int .u64 dh, .int .i64 di, .int .i64 dj], .bool cb]) ∧ But [] w w')) {u1 u2 u3 u5 u6 u9 u10 u12 u13 u15 u16 u17 u18 u19 u20 u21 u22 u23 u24 u25 u26 u27 u28 u29 u30 u31 u32 u33 u34 u35 u36 u37 u38 u39 u40 u41 u42 u43 u44 u45 u46 u47 u48 u49 u50 u51 u52 u53 u54 u55 u56 u57 u58 u59 u60 u61 u62 u63 u64 u65 u66 u67 u68 u69 u70 u71 u72 u73 u74 u75 u76 u77 u78 u79 u80 u81 u82 u83 u84 u85 u86 u87 u88 u89 u90 u91 u92 u93 u94 u95 u96 u97 u98 u99 u100 u101 u102 u103 u104 u105 u106 u107 u108 u109 u110 u111 u112 u113 u114 u115 u116 u117 u118 u119 u120 u121 u122 u123 u124 u125 u126 u127 u128 u129 u130 u131 u132 u133 u134 u135 u136 u137 u138 u139 u140 u141 u142 u143 u144 : Value} (hQ : ∀ (z122 z123 z124 z125 z126 z127 z128 z129 z130 z121 z131 z132 z133 : Value) (w6 : World) (k l : Nat), But [] wr w6 → wr.heap.size ≤ k → wr.heap.size ≤ l → k ≠ l → w6.heap[k]? = some (.cells #[.int .u64 cv, .int .u64 cm, .int .u64 cl, .int .u64 ch, .int .i64 ci, .int .i64 cj] 28) → w6.heap[l]? = some (.cells #[.int .u64 dv, .int .u64 dm, .int .u64 dl, .int .u64 dh, .int .i64 di, .int .i64 dj] 28) → Q .normal { tmps := List.toArray (.bool wide :: u1 :: u2 :: u3 :: .bool tk :: u5 :: u6 :: .pointer (some ⟨bx, 0, none⟩) :: .pointer (some ⟨by_, 0, none⟩) :: u9 :: u10 :: .slice (some ⟨LB, 0, none⟩) 6 6 :: u12 :: u13 :: .int .i64 (i : Int) :: u15 :: u16 :: u17 :: u18 :: u19 :: u20 :: u21 :: u22 :: u23 :: .pointer (some ⟨k, 0, none⟩) :: .pointer (some ⟨l, 0, none⟩) :: .bool cb :: u27 :: u28 :: u29 :: u30 :: u31 :: u32 :: u33 :: u34 :: u35 :: u36 :: u37 :: u38 :: u39 :: u40 :: u41 :: u42 :: u43 :: u44 :: u45 :: u46 :: u47 :: u48 :: u49 :: u50 :: u51 :: u52 :: u53 :: u54 :: u55 :: u56 :: u57 :: u58 :: u59 :: u60 :: u61 :: u62 :: u63 :: u64 :: u65 :: u66 :: u67 :: u68 :: u69 :: u70 :: u71 :: u72 :: u73 :: u74 :: u75 :: u76 :: u77 :: u78 :: u79 :: u80 :: u81 :: u82 :: u83 :: u84 :: u85 :: u86 :: u87 :: u88 :: u89 :: u90 :: u91 :: u92 :: u93 :: u94 :: u95 :: u96 :: u97 :: u98 :: u99 :: u100 :: u101 :: u102 :: u103 :: u104 :: u105 :: u106 :: u107 :: u108 :: u109 :: u110 :: u111 :: u112 :: u113 :: u114 :: u115 :: u116 :: u117 :: u118 :: u119 :: u120 :: z121 :: z122 :: z123 :: z124 :: z125 :: z126 :: z127 :: z128 :: z129 :: z130 :: z131 :: z132 :: z133 :: u134 :: u135 :: u136 :: u137 :: u138 :: u139 :: u140 :: u141 :: u142 :: u143 :: u144 :: []), defers := [] } w6) :
    Code.wp Try.prog code_tu18 Q { tmps := List.toArray (.bool wide :: u1 :: u2 :: u3 :: .bool tk :: u5 :: u6 :: .pointer (some ⟨bx, 0, none⟩) :: .pointer (some ⟨by_, 0, none⟩) :: u9 :: u10 :: .slice (some ⟨LB, 0, none⟩) 6 6 :: u12 :: u13 :: .int .i64 (i : Int) :: u15 :: u16 :: u17 :: u18 :: u19 :: u20 :: u21 :: u22 :: u23 :: u24 :: u25 :: u26 :: u27 :: u28 :: u29 :: u30 :: u31 :: u32 :: u33 :: u34 :: u35 :: u36 :: u37 :: u38 :: u39 :: u40 :: u41 :: u42 :: u43 :: u44 :: u45 :: u46 :: u47 :: u48 :: u49 :: u50 :: u51 :: u52 :: u53 :: u54 :: u55 :: u56 :: u57 :: u58 :: u59 :: u60 :: u61 :: u62 :: u63 :: u64 :: u65 :: u66 :: u67 :: u68 :: u69 :: u70 :: u71 :: u72 :: u73 :: u74 :: u75 :: u76 :: u77 :: u78 :: u79 :: u80 :: u81 :: u82 :: u83 :: u84 :: u85 :: u86 :: u87 :: u88 :: u89 :: u90 :: u91 :: u92 :: u93 :: u94 :: u95 :: u96 :: u97 :: u98 :: u99 :: u100 :: u101 :: u102 :: u103 :: u104 :: u105 :: u106 :: u107 :: u108 :: u109 :: u110 :: u111 :: u112 :: u113 :: u114 :: u115 :: u116 :: u117 :: u118 :: u119 :: u120 :: u121 :: u122 :: u123 :: u124 :: u125 :: u126 :: u127 :: u128 :: u129 :: u130 :: u131 :: u132 :: u133 :: u134 :: u135 :: u136 :: u137 :: u138 :: u139 :: u140 :: u141 :: u142 :: u143 :: u144 :: []), defers := [] } wr := by
  have HQ := Lib.hid hQ
  clear hQ
  conv => arg 2; whnf
  refine wp_region_pair 13 (by kernel_rfl) (by kernel_rfl) [.slice (some ⟨LB, 0, none⟩) 6 6, .int .i64 (i : Int), .pointer (some ⟨LB, i, none⟩), .int .u8 (p : Int), .bool wide, .agg #[.int .u64 yv, .int .u64 ym, .int .u64 ylo, .int .u64 yhi, .int .i64 ysl, .int .i64 ysh], .agg #[.int .u64 xv, .int .u64 xm, .int .u64 xlo, .int .u64 xhi, .int .i64 xsl, .int .i64 xsh], .bool tk, .tuple #[.agg #[.int .u64 cv, .int .u64 cm, .int .u64 cl, .int .u64 ch, .int .i64 ci, .int .i64 cj], .agg #[.int .u64 dv, .int .u64 dm, .int .u64 dl, .int .u64 dh, .int .i64 di, .int .i64 dj], .bool cb], .tuple #[.agg #[.int .u64 cv, .int .u64 cm, .int .u64 cl, .int .u64 ch, .int .i64 ci, .int .i64 cj], .agg #[.int .u64 dv, .int .u64 dm, .int .u64 dl, .int .u64 dh, .int .i64 di, .int .i64 dj], .bool cb], .agg #[.int .u64 cv, .int .u64 cm, .int .u64 cl, .int .u64 ch, .int .i64 ci, .int .i64 cj], .agg #[.int .u64 dv, .int .u64 dm, .int .u64 dl, .int .u64 dh, .int .i64 di, .int .i64 dj], .bool cb] [[], [], [(0, 122), (1, 123)], [(2, 124)], [], [], [], [], [(3, 125), (4, 126), (5, 127), (6, 128), (7, 129)], [(8, 130)], [(9, 121)], [(9, 121)], [(9, 121)]] [[(11, .slice (some ⟨LB, 0, none⟩) 6 6)], [(14, .int .i64 (i : Int))], [], [], [(0, .bool wide)], [(8, .pointer (some ⟨by_, 0, none⟩))], [(7, .pointer (some ⟨bx, 0, none⟩))], [(4, .bool tk)], [], [], [], [], []] (by kernel_rfl) (by kernel_rfl) (by kernel_rfl) ?_ ?_ [none, none, none, none, none, none, none, none, none, none, none, none, none, none, none, none, none, none, none, none, none, none, none, none, some 24, some 25, some 26, none, none, none, none, none, none, none, none, none, none, none, none, none, none, none, none, none, none, none, none, none, none, none, none, none, none, none, none, none, none, none, none, none, none, none, none, none, none, none, none, none, none, none, none, none, none, none, none, none, none, none, none, none, none, none, none, none, none, none, none, none, none, none, none, none, none, none, none, none, none, none, none, none, none, none, none, none, none, none, none, none, none, none, none, none, none, none, none, none, none, none, none, none, none, some 121, some 122, some 123, some 124, some 125, some 126, some 127, some 128, some 129, some 130, some 131, some 132, some 133, none, none, none, none, none, none, none, none, none, none, none] (by kernel_rfl) (by rfl) (jx := 10) (jy := 11) (jz := 12) (sx := 131) (sy := 132) (sz := 133) (A := 24) (B := 25) (c := 26) (zs := #[.int .u64 0, .int .u64 0, .int .u64 0, .int .u64 0, .int .i64 0, .int .i64 0]) (cx := #[.int .u64 cv, .int .u64 cm, .int .u64 cl, .int .u64 ch, .int .i64 ci, .int .i64 cj]) (cy := #[.int .u64 dv, .int .u64 dm, .int .u64 dl, .int .u64 dh, .int .i64 di, .int .i64 dj]) (t := 28) (vx := .agg #[.int .u64 cv, .int .u64 cm, .int .u64 cl, .int .u64 ch, .int .i64 ci, .int .i64 cj]) (vy := .agg #[.int .u64 dv, .int .u64 dm, .int .u64 dl, .int .u64 dh, .int .i64 di, .int .i64 dj]) (vz := .bool cb) rfl rfl rfl rfl rfl rfl rfl rfl rfl rfl (by kernel_rfl) (by kernel_rfl) (by kernel_rfl) rfl (by kernel_rfl) rfl (by kernel_rfl) rfl ?_ ?_ ?_ ?_ ?_ ?_
  · exact ⟨⟨rfl, trivial⟩, ⟨rfl, trivial⟩, trivial, trivial, ⟨rfl, trivial⟩, ⟨rfl, trivial⟩, ⟨rfl, trivial⟩, ⟨rfl, trivial⟩, trivial, trivial, trivial, trivial, trivial, trivial⟩
  · simp only [List.take_succ_cons, List.take_zero]
    refine ⟨fun a9 w9 hR hk hf => ?_, ?_⟩
    · simp only [KnowF, FreeF, and_true] at hk hf
      have e11 : a9.tmps[11]?.getD undef = .slice (some ⟨LB, 0, none⟩) 6 6 := freeF_ev hf
      exact flow_run (v := .slice (some ⟨LB, 0, none⟩) 6 6) (by go_simp) (But.refl _ _) (GV.of rfl)
    refine ⟨fun a9 w9 hR hk hf => ?_, ?_⟩
    · simp only [KnowF, FreeF, and_true] at hk hf
      have e14 : a9.tmps[14]?.getD undef = .int .i64 (i : Int) := freeF_ev hf
      exact flow_run (v := .int .i64 (i : Int)) (by go_simp) (But.refl _ _) (GV.of rfl)
    refine ⟨fun a9 w9 hR hk hf => ?_, ?_⟩
    · simp only [KnowF, FreeF, and_true] at hk hf
      have e122 := (hk.1).ev (v := .slice (some ⟨LB, 0, none⟩) 6 6) rfl
      have e123 := (hk.2).ev (v := .int .i64 (i : Int)) rfl
      have g0 := HI0.out
      have g1 := HI1.out
      exact flow_run (v := .pointer (some ⟨LB, i, none⟩)) (by go_simp) (But.refl _ _) (GV.of rfl)
    refine ⟨fun a9 w9 hR hk hf => ?_, ?_⟩
    · simp only [KnowF, FreeF, and_true] at hk hf
      have e124 := (hk).ev (v := .pointer (some ⟨LB, i, none⟩)) rfl
      have f0 := cell_but hR HOP.out (by simp)
      exact flow_run (v := .int .u8 (p : Int)) (by go_simp) (But.refl _ _) (GV.of rfl)
    refine ⟨fun a9 w9 hR hk hf => ?_, ?_⟩
    · simp only [KnowF, FreeF, and_true] at hk hf
      have e0 : a9.tmps[0]?.getD undef = .bool wide := freeF_ev hf
      exact flow_run (v := .bool wide) (by go_simp) (But.refl _ _) (GV.of rfl)
    refine ⟨fun a9 w9 hR hk hf => ?_, ?_⟩
    · simp only [KnowF, FreeF, and_true] at hk hf
      have e8 : a9.tmps[8]?.getD undef = .pointer (some ⟨by_, 0, none⟩) := freeF_ev hf
      have hh := hR.heap HY.out (by simp)
      have f0 := cl_of hh 0
      have f1 := cl_of hh 1
      have f2 := cl_of hh 2
      have f3 := cl_of hh 3
      have f4 := cl_of hh 4
      have f5 := cl_of hh 5
      simp only [List.getElem?_toArray, List.getElem?_cons_zero, List.getElem?_cons_succ] at f0 f1 f2 f3 f4 f5
      clear hh
      exact flow_run (v := .agg #[.int .u64 yv, .int .u64 ym, .int .u64 ylo, .int .u64 yhi, .int .i64 ysl, .int .i64 ysh]) (by go_simp) (But.refl _ _) (GV.of rfl)
    refine ⟨fun a9 w9 hR hk hf => ?_, ?_⟩
    · simp only [KnowF, FreeF, and_true] at hk hf
      have e7 : a9.tmps[7]?.getD undef = .pointer (some ⟨bx, 0, none⟩) := freeF_ev hf
      have hh := hR.heap HX.out (by simp)
      have f0 := cl_of hh 0
      have f1 := cl_of hh 1
      have f2 := cl_of hh 2
      have f3 := cl_of hh 3
      have f4 := cl_of hh 4
      have f5 := cl_of hh 5
      simp only [List.getElem?_toArray, List.getElem?_cons_zero, List.getElem?_cons_succ] at f0 f1 f2 f3 f4 f5
      clear hh
      exact flow_run (v := .agg #[.int .u64 xv, .int .u64 xm, .int .u64 xlo, .int .u64 xhi, .int .i64 xsl, .int .i64 xsh]) (by go_simp) (But.refl _ _) (GV.of rfl)
    refine ⟨fun a9 w9 hR hk hf => ?_, ?_⟩
    · simp only [KnowF, FreeF, and_true] at hk hf
      have e4 : a9.tmps[4]?.getD undef = .bool tk := freeF_ev hf
      exact flow_run (v := .bool tk) (by go_simp) (But.refl _ _) (GV.of rfl)
    refine ⟨fun a9 w9 hR hk hf => ?_, ?_⟩
    · simp only [KnowF, FreeF, and_true] at hk hf
      have e125 := (hk.1).ev (v := .int .u8 (p : Int)) rfl
      have e126 := (hk.2.1).ev (v := .bool wide) rfl
      have e127 := (hk.2.2.1).ev (v := .agg #[.int .u64 yv, .int .u64 ym, .int .u64 ylo, .int .u64 yhi, .int .i64 ysl, .int .i64 ysh]) rfl
      have e128 := (hk.2.2.2.1).ev (v := .agg #[.int .u64 xv, .int .u64 xm, .int .u64 xlo, .int .u64 xhi, .int .i64 xsl, .int .i64 xsh]) rfl
      have e129 := (hk.2.2.2.2).ev (v := .bool tk) rfl
      exact flow_call (f := 12) (args := #[.int .u8 (p : Int), .bool wide, .agg #[.int .u64 yv, .int .u64 ym, .int .u64 ylo, .int .u64 yhi, .int .i64 ysl, .int .i64 ysh], .agg #[.int .u64 xv, .int .u64 xm, .int .u64 xlo, .int .u64 xhi, .int .i64 xsl, .int .i64 xsh], .bool tk]) (by go_simp) ((HBR.out _).mono (by rintro e w' ⟨rfl, hb⟩; exact ⟨_, rfl, hb, GV.of rfl⟩))
    refine ⟨fun a9 w9 hR hk hf => ?_, ?_⟩
    · simp only [KnowF, FreeF, and_true] at hk hf
      have e130 := (hk).ev (v := .tuple #[.agg #[.int .u64 cv, .int .u64 cm, .int .u64 cl, .int .u64 ch, .int .i64 ci, .int .i64 cj], .agg #[.int .u64 dv, .int .u64 dm, .int .u64 dl, .int .u64 dh, .int .i64 di, .int .i64 dj], .bool cb]) rfl
      exact flow_run (v := .tuple #[.agg #[.int .u64 cv, .int .u64 cm, .int .u64 cl, .int .u64 ch, .int .i64 ci, .int .i64 cj], .agg #[.int .u64 dv, .int .u64 dm, .int .u64 dl, .int .u64 dh, .int .i64 di, .int .i64 dj], .bool cb]) (by go_simp) (But.refl _ _) (GV.of rfl)
    refine ⟨fun a9 w9 hR hk hf => ?_, ?_⟩
    · simp only [KnowF, FreeF, and_true] at hk hf
      have e121 := (hk).ev (v := .tuple #[.agg #[.int .u64 cv, .int .u64 cm, .int .u64 cl, .int .u64 ch, .int .i64 ci, .int .i64 cj], .agg #[.int .u64 dv, .int .u64 dm, .int .u64 dl, .int .u64 dh, .int .i64 di, .int .i64 dj], .bool cb]) rfl
      exact flow_run (v := .agg #[.int .u64 cv, .int .u64 cm, .int .u64 cl, .int .u64 ch, .int .i64 ci, .int .i64 cj]) (by go_simp) (But.refl _ _) (GV.of rfl)
    refine ⟨fun a9 w9 hR hk hf => ?_, ?_⟩
    · simp only [KnowF, FreeF, and_true] at hk hf
      have e121 := (hk).ev (v := .tuple #[.agg #[.int .u64 cv, .int .u64 cm, .int .u64 cl, .int .u64 ch, .int .i64 ci, .int .i64 cj], .agg #[.int .u64 dv, .int .u64 dm, .int .u64 dl, .int .u64 dh, .int .i64 di, .int .i64 dj], .bool cb]) rfl
      exact flow_run (v := .agg #[.int .u64 dv, .int .u64 dm, .int .u64 dl, .int .u64 dh, .int .i64 di, .int .i64 dj]) (by go_simp) (But.refl _ _) (GV.of rfl)
    refine ⟨fun a9 w9 hR hk hf => ?_, ?_⟩
    · simp only [KnowF, FreeF, and_true] at hk hf
      have e121 := (hk).ev (v := .tuple #[.agg #[.int .u64 cv, .int .u64 cm, .int .u64 cl, .int .u64 ch, .int .i64 ci, .int .i64 cj], .agg #[.int .u64 dv, .int .u64 dm, .int .u64 dl, .int .u64 dh, .int .i64 di, .int .i64 dj], .bool cb]) rfl
      exact flow_run (v := .bool cb) (by go_simp) (But.refl _ _) (GV.of rfl)
    exact trivial
  · exact fun a w => pair_alloc (v := ptr0 w.heap.size) (by unfold ptr0; go_simp)
  · exact fun a w => pair_alloc (v := ptr0 w.heap.size) (by unfold ptr0; go_simp)
  · intro a w k e1 e2 h
    unfold ptr0 at e1
    have f0 := fz_of h 0
    have f1 := fz_of h 1
    have f2 := fz_of h 2
    have f3 := fz_of h 3
    have f4 := fz_of h 4
    have f5 := fz_of h 5
    have c0 := cl_of h 0
    have c1 := cl_of h 1
    have c2 := cl_of h 2
    have c3 := cl_of h 3
    have c4 := cl_of h 4
    have c5 := cl_of h 5
    simp only [List.getElem?_toArray, List.getElem?_cons_zero, List.getElem?_cons_succ] at c0 c1 c2 c3 c4 c5 f0 f1 f2 f3 f4 f5
    exact pair_store rfl (w' := ((((((w.setCell ⟨k, 0, none⟩ (.int .u64 cv)).setCell ⟨k, 1, none⟩ (.int .u64 cm)).setCell ⟨k, 2, none⟩ (.int .u64 cl)).setCell ⟨k, 3, none⟩ (.int .u64 ch)).setCell ⟨k, 4, none⟩ (.int .i64 ci)).setCell ⟨k, 5, none⟩ (.int .i64 cj))) (by go_simp) but6x (set6x h)
  · intro a w k e1 e2 h
    unfold ptr0 at e1
    have f0 := fz_of h 0
    have f1 := fz_of h 1
    have f2 := fz_of h 2
    have f3 := fz_of h 3
    have f4 := fz_of h 4
    have f5 := fz_of h 5
    have c0 := cl_of h 0
    have c1 := cl_of h 1
    have c2 := cl_of h 2
    have c3 := cl_of h 3
    have c4 := cl_of h 4
    have c5 := cl_of h 5
    simp only [List.getElem?_toArray, List.getElem?_cons_zero, List.getElem?_cons_succ] at c0 c1 c2 c3 c4 c5 f0 f1 f2 f3 f4 f5
    exact pair_store rfl (w' := ((((((w.setCell ⟨k, 0, none⟩ (.int .u64 dv)).setCell ⟨k, 1, none⟩ (.int .u64 dm)).setCell ⟨k, 2, none⟩ (.int .u64 dl)).setCell ⟨k, 3, none⟩ (.int .u64 dh)).setCell ⟨k, 4, none⟩ (.int .i64 di)).setCell ⟨k, 5, none⟩ (.int .i64 dj))) (by go_simp) but6x (set6x h)
  · intro a w e
    exact pair_alloc (v := .bool cb) (by go_simp)
  · intro f w kA kB hb eA eB ec h1 h2 h3 h4 h5
    show Q .normal { tmps := List.toArray (.bool wide :: u1 :: u2 :: u3 :: .bool tk :: u5 :: u6 :: .pointer (some ⟨bx, 0, none⟩) :: .pointer (some ⟨by_, 0, none⟩) :: u9 :: u10 :: .slice (some ⟨LB, 0, none⟩) 6 6 :: u12 :: u13 :: .int .i64 (i : Int) :: u15 :: u16 :: u17 :: u18 :: u19 :: u20 :: u21 :: u22 :: u23 :: f 24 :: f 25 :: f 26 :: u27 :: u28 :: u29 :: u30 :: u31 :: u32 :: u33 :: u34 :: u35 :: u36 :: u37 :: u38 :: u39 :: u40 :: u41 :: u42 :: u43 :: u44 :: u45 :: u46 :: u47 :: u48 :: u49 :: u50 :: u51 :: u52 :: u53 :: u54 :: u55 :: u56 :: u57 :: u58 :: u59 :: u60 :: u61 :: u62 :: u63 :: u64 :: u65 :: u66 :: u67 :: u68 :: u69 :: u70 :: u71 :: u72 :: u73 :: u74 :: u75 :: u76 :: u77 :: u78 :: u79 :: u80 :: u81 :: u82 :: u83 :: u84 :: u85 :: u86 :: u87 :: u88 :: u89 :: u90 :: u91 :: u92 :: u93 :: u94 :: u95 :: u96 :: u97 :: u98 :: u99 :: u100 :: u101 :: u102 :: u103 :: u104 :: u105 :: u106 :: u107 :: u108 :: u109 :: u110 :: u111 :: u112 :: u113 :: u114 :: u115 :: u116 :: u117 :: u118 :: u119 :: u120 :: f 121 :: f 122 :: f 123 :: f 124 :: f 125 :: f 126 :: f 127 :: f 128 :: f 129 :: f 130 :: f 131 :: f 132 :: f 133 :: u134 :: u135 :: u136 :: u137 :: u138 :: u139 :: u140 :: u141 :: u142 :: u143 :: u144 :: []), defers := [] } w
    unfold ptr0 at eA eB
    rw [eA, eB, ec]
    exact HQ.out _ _ _ _ _ _ _ _ _ _ _ _ _ _ _ _ hb h1 h2 h3 h4 h5
end Go.Proofs.Ytmbmmcippglfoaa.M
