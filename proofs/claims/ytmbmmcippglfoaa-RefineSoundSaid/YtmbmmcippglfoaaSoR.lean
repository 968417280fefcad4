/-
  RefineSound: its drawn statement.
-/
import Derived.Test.YtmbmmcippglfoaaAwR
namespace Go.Proofs.Ytmbmmcippglfoaa.M
open Go.RowKit Go.Shelf
set_option linter.unusedVariables false
set_option linter.unusedSectionVars false
set_option linter.unusedSimpArgs false

noncomputable def code_so10 : Code := ((Try.f6.body.getD .skip |> regionR 10).getD .skip)
set_option maxRecDepth 100000 in
set_option maxHeartbeats 8000000 in
theorem so10 (Q : Exit → Act → World → Prop) {wr : World} {v m lo hi xv xm xlo xhi cv cm cl ch dv dm dl dh : Nat} {sl sh xsl xsh ci cj di dj : Int} {cb : Bool} {wide tk : Bool} {LB i p : Nat} {ba bx : Nat} (HI0 : Hid ((0 : Int) ≤ (i : Int))) (HI1 : Hid ((i : Int) < 11)) (HA : Hid (wr.heap[ba]? = some (.cells #[.int .u64 v, .int .u64 m, .int .u64 lo, .int .u64 hi, .int .i64 sl, .int .i64 sh] 28))) (HX : Hid (wr.heap[bx]? = some (.cells #[.int .u64 xv, .int .u64 xm, .int .u64 xlo, .int .u64 xhi, .int .i64 xsl, .int .i64 xsh] 28))) (HOP : Hid (wr.cell? ⟨LB, i, none⟩ = some (.int .u8 (p : Int)))) (HBR : Hid (∀ w, Calls Try.prog 12 #[.int .u8 (p : Int), .bool wide, .agg #[.int .u64 v, .int .u64 m, .int .u64 lo, .int .u64 hi, .int .i64 sl, .int .i64 sh], .agg #[.int .u64 xv, .int .u64 xm, .int .u64 xlo, .int .u64 xhi, .int .i64 xsl, .int .i64 xsh], .bool tk] w fun e w' => e = .returned (.tuple #[.agg #[.int .u64 cv, .int .u64 cm, .int .u64 cl, .int .u64 ch, .int .i64 ci, .int .i64 cj], .agg #[.int .u64 dv, .int .u64 dm, .int .u64 dl, .int .u64 dh, .int .i64 di, .int .i64 dj], .bool cb]) ∧ But [] w w')) {u1 u2 u3 u4 u5 u8 u9 u10 u14 u15 u16 u17 u18 u19 u20 u21 u22 u23 u24 u25 u26 u27 u28 u29 u30 u31 u32 u33 u34 u35 u36 u37 u38 u39 u40 u41 u42 u43 u44 u45 u46 u47 u48 u49 u50 u51 u52 u53 u54 u55 u56 u57 u58 u59 u60 u61 u62 u63 u64 u65 u66 u67 u68 u69 u70 u71 u72 u73 u74 u75 u76 u77 u78 u79 u80 u81 u82 u83 u84 u85 u86 u87 u88 u89 u90 u91 u92 u93 u94 u95 u96 u97 u98 u99 u100 : Value} (hQ : ∀ (z49 z50 z51 z52 z53 z54 z55 z56 z57 z48 z58 z59 z60 : Value) (w6 : World) (k l : Nat), But [] wr w6 → wr.heap.size ≤ k → wr.heap.size ≤ l → k ≠ l → w6.heap[k]? = some (.cells #[.int .u64 cv, .int .u64 cm, .int .u64 cl, .int .u64 ch, .int .i64 ci, .int .i64 cj] 28) → w6.heap[l]? = some (.cells #[.int .u64 dv, .int .u64 dm, .int .u64 dl, .int .u64 dh, .int .i64 di, .int .i64 dj] 28) → Q .normal { tmps := List.toArray (.bool wide :: u1 :: u2 :: u3 :: u4 :: u5 :: .pointer (some ⟨ba, 0, none⟩) :: .pointer (some ⟨bx, 0, none⟩) :: u8 :: u9 :: u10 :: .slice (some ⟨LB, 0, none⟩) 11 11 :: .int .i64 (i : Int) :: .bool tk :: u14 :: .pointer (some ⟨k, 0, none⟩) :: .pointer (some ⟨l, 0, none⟩) :: .bool cb :: u18 :: u19 :: u20 :: u21 :: u22 :: u23 :: u24 :: u25 :: u26 :: u27 :: u28 :: u29 :: u30 :: u31 :: u32 :: u33 :: u34 :: u35 :: u36 :: u37 :: u38 :: u39 :: u40 :: u41 :: u42 :: u43 :: u44 :: u45 :: u46 :: u47 :: z48 :: z49 :: z50 :: z51 :: z52 :: z53 :: z54 :: z55 :: z56 :: z57 :: z58 :: z59 :: z60 :: u61 :: u62 :: u63 :: u64 :: u65 :: u66 :: u67 :: u68 :: u69 :: u70 :: u71 :: u72 :: u73 :: u74 :: u75 :: u76 :: u77 :: u78 :: u79 :: u80 :: u81 :: u82 :: u83 :: u84 :: u85 :: u86 :: u87 :: u88 :: u89 :: u90 :: u91 :: u92 :: u93 :: u94 :: u95 :: u96 :: u97 :: u98 :: u99 :: u100 :: []), defers := [] } w6) :
    Code.wp Try.prog code_so10 Q { tmps := List.toArray (.bool wide :: u1 :: u2 :: u3 :: u4 :: u5 :: .pointer (some ⟨ba, 0, none⟩) :: .pointer (some ⟨bx, 0, none⟩) :: u8 :: u9 :: u10 :: .slice (some ⟨LB, 0, none⟩) 11 11 :: .int .i64 (i : Int) :: .bool tk :: u14 :: u15 :: u16 :: u17 :: u18 :: u19 :: u20 :: u21 :: u22 :: u23 :: u24 :: u25 :: u26 :: u27 :: u28 :: u29 :: u30 :: u31 :: u32 :: u33 :: u34 :: u35 :: u36 :: u37 :: u38 :: u39 :: u40 :: u41 :: u42 :: u43 :: u44 :: u45 :: u46 :: u47 :: u48 :: u49 :: u50 :: u51 :: u52 :: u53 :: u54 :: u55 :: u56 :: u57 :: u58 :: u59 :: u60 :: u61 :: u62 :: u63 :: u64 :: u65 :: u66 :: u67 :: u68 :: u69 :: u70 :: u71 :: u72 :: u73 :: u74 :: u75 :: u76 :: u77 :: u78 :: u79 :: u80 :: u81 :: u82 :: u83 :: u84 :: u85 :: u86 :: u87 :: u88 :: u89 :: u90 :: u91 :: u92 :: u93 :: u94 :: u95 :: u96 :: u97 :: u98 :: u99 :: u100 :: []), defers := [] } wr := by
  have HQ := Lib.hid hQ
  clear hQ
  conv => arg 2; whnf
  refine wp_region_pair 13 (by kernel_rfl) (by kernel_rfl) [.slice (some ⟨LB, 0, none⟩) 11 11, .int .i64 (i : Int), .pointer (some ⟨LB, i, none⟩), .int .u8 (p : Int), .bool wide, .agg #[.int .u64 v, .int .u64 m, .int .u64 lo, .int .u64 hi, .int .i64 sl, .int .i64 sh], .agg #[.int .u64 xv, .int .u64 xm, .int .u64 xlo, .int .u64 xhi, .int .i64 xsl, .int .i64 xsh], .bool tk, .tuple #[.agg #[.int .u64 cv, .int .u64 cm, .int .u64 cl, .int .u64 ch, .int .i64 ci, .int .i64 cj], .agg #[.int .u64 dv, .int .u64 dm, .int .u64 dl, .int .u64 dh, .int .i64 di, .int .i64 dj], .bool cb], .tuple #[.agg #[.int .u64 cv, .int .u64 cm, .int .u64 cl, .int .u64 ch, .int .i64 ci, .int .i64 cj], .agg #[.int .u64 dv, .int .u64 dm, .int .u64 dl, .int .u64 dh, .int .i64 di, .int .i64 dj], .bool cb], .agg #[.int .u64 cv, .int .u64 cm, .int .u64 cl, .int .u64 ch, .int .i64 ci, .int .i64 cj], .agg #[.int .u64 dv, .int .u64 dm, .int .u64 dl, .int .u64 dh, .int .i64 di, .int .i64 dj], .bool cb] [[], [], [(0, 49), (1, 50)], [(2, 51)], [], [], [], [], [(3, 52), (4, 53), (5, 54), (6, 55), (7, 56)], [(8, 57)], [(9, 48)], [(9, 48)], [(9, 48)]] [[(11, .slice (some ⟨LB, 0, none⟩) 11 11)], [(12, .int .i64 (i : Int))], [], [], [(0, .bool wide)], [(6, .pointer (some ⟨ba, 0, none⟩))], [(7, .pointer (some ⟨bx, 0, none⟩))], [(13, .bool tk)], [], [], [], [], []] (by kernel_rfl) (by kernel_rfl) (by kernel_rfl) ?_ ?_ [none, none, none, none, none, none, none, none, none, none, none, none, none, none, none, some 15, some 16, some 17, none, none, none, none, none, none, none, none, none, none, none, none, none, none, none, none, none, none, none, none, none, none, none, none, none, none, none, none, none, none, some 48, some 49, some 50, some 51, some 52, some 53, some 54, some 55, some 56, some 57, some 58, some 59, some 60, none, none, none, none, none, none, none, none, none, none, none, none, none, none, none, none, none, none, none, none, none, none, none, none, none, none, none, none, none, none, none, none, none, none, none, none, none, none, none, none] (by kernel_rfl) (by rfl) (jx := 10) (jy := 11) (jz := 12) (sx := 58) (sy := 59) (sz := 60) (A := 15) (B := 16) (c := 17) (zs := #[.int .u64 0, .int .u64 0, .int .u64 0, .int .u64 0, .int .i64 0, .int .i64 0]) (cx := #[.int .u64 cv, .int .u64 cm, .int .u64 cl, .int .u64 ch, .int .i64 ci, .int .i64 cj]) (cy := #[.int .u64 dv, .int .u64 dm, .int .u64 dl, .int .u64 dh, .int .i64 di, .int .i64 dj]) (t := 28) (vx := .agg #[.int .u64 cv, .int .u64 cm, .int .u64 cl, .int .u64 ch, .int .i64 ci, .int .i64 cj]) (vy := .agg #[.int .u64 dv, .int .u64 dm, .int .u64 dl, .int .u64 dh, .int .i64 di, .int .i64 dj]) (vz := .bool cb) rfl rfl rfl rfl rfl rfl rfl rfl rfl rfl (by kernel_rfl) (by kernel_rfl) (by kernel_rfl) rfl (by kernel_rfl) rfl (by kernel_rfl) rfl ?_ ?_ ?_ ?_ ?_ ?_
  · exact ⟨⟨rfl, trivial⟩, ⟨rfl, trivial⟩, trivial, trivial, ⟨rfl, trivial⟩, ⟨rfl, trivial⟩, ⟨rfl, trivial⟩, ⟨rfl, trivial⟩, trivial, trivial, trivial, trivial, trivial, trivial⟩
  · simp only [List.take_succ_cons, List.take_zero]
    refine ⟨fun a9 w9 hR hk hf => ?_, ?_⟩
    · simp only [KnowF, FreeF, and_true] at hk hf
      have e11 : a9.tmps[11]?.getD undef = .slice (some ⟨LB, 0, none⟩) 11 11 := freeF_ev hf
      exact flow_run (v := .slice (some ⟨LB, 0, none⟩) 11 11) (by go_simp) (But.refl _ _) (GV.of rfl)
    refine ⟨fun a9 w9 hR hk hf => ?_, ?_⟩
    · simp only [KnowF, FreeF, and_true] at hk hf
      have e12 : a9.tmps[12]?.getD undef = .int .i64 (i : Int) := freeF_ev hf
      exact flow_run (v := .int .i64 (i : Int)) (by go_simp) (But.refl _ _) (GV.of rfl)
    refine ⟨fun a9 w9 hR hk hf => ?_, ?_⟩
    · simp only [KnowF, FreeF, and_true] at hk hf
      have e49 := (hk.1).ev (v := .slice (some ⟨LB, 0, none⟩) 11 11) rfl
      have e50 := (hk.2).ev (v := .int .i64 (i : Int)) rfl
      have g0 := HI0.out
      have g1 := HI1.out
      exact flow_run (v := .pointer (some ⟨LB, i, none⟩)) (by go_simp) (But.refl _ _) (GV.of rfl)
    refine ⟨fun a9 w9 hR hk hf => ?_, ?_⟩
    · simp only [KnowF, FreeF, and_true] at hk hf
      have e51 := (hk).ev (v := .pointer (some ⟨LB, i, none⟩)) rfl
      have f0 := cell_but hR HOP.out (by simp)
      exact flow_run (v := .int .u8 (p : Int)) (by go_simp) (But.refl _ _) (GV.of rfl)
    refine ⟨fun a9 w9 hR hk hf => ?_, ?_⟩
    · simp only [KnowF, FreeF, and_true] at hk hf
      have e0 : a9.tmps[0]?.getD undef = .bool wide := freeF_ev hf
      exact flow_run (v := .bool wide) (by go_simp) (But.refl _ _) (GV.of rfl)
    refine ⟨fun a9 w9 hR hk hf => ?_, ?_⟩
    · simp only [KnowF, FreeF, and_true] at hk hf
      have e6 : a9.tmps[6]?.getD undef = .pointer (some ⟨ba, 0, none⟩) := freeF_ev hf
      have hh := hR.heap HA.out (by simp)
      have f0 := cl_of hh 0
      have f1 := cl_of hh 1
      have f2 := cl_of hh 2
      have f3 := cl_of hh 3
      have f4 := cl_of hh 4
      have f5 := cl_of hh 5
      simp only [List.getElem?_toArray, List.getElem?_cons_zero, List.getElem?_cons_succ] at f0 f1 f2 f3 f4 f5
      clear hh
      exact flow_run (v := .agg #[.int .u64 v, .int .u64 m, .int .u64 lo, .int .u64 hi, .int .i64 sl, .int .i64 sh]) (by go_simp) (But.refl _ _) (GV.of rfl)
    refine ⟨fun a9 w9 hR hk hf => ?_, ?_⟩
    · simp only [KnowF, FreeF, and_true] at hk hf
      have e7 : a9.tmps[7]?.getD undef = .pointer (some ⟨bx, 0, none⟩) := freeF_ev hf
      have hh := hR.heap HX.out (by simp)
      have f0 := cl_of hh 0
      have f1 := cl_of hh 1
      have f2 := cl_of hh 2
      have f3 := cl_of hh 3
      have f4 := cl_of hh 4
      have f5 := cl_of hh 5
      simp only [List.getElem?_toArray, List.getElem?_cons_zero, List.getElem?_cons_succ] at f0 f1 f2 f3 f4 f5
      clear hh
      exact flow_run (v := .agg #[.int .u64 xv, .int .u64 xm, .int .u64 xlo, .int .u64 xhi, .int .i64 xsl, .int .i64 xsh]) (by go_simp) (But.refl _ _) (GV.of rfl)
    refine ⟨fun a9 w9 hR hk hf => ?_, ?_⟩
    · simp only [KnowF, FreeF, and_true] at hk hf
      have e13 : a9.tmps[13]?.getD undef = .bool tk := freeF_ev hf
      exact flow_run (v := .bool tk) (by go_simp) (But.refl _ _) (GV.of rfl)
    refine ⟨fun a9 w9 hR hk hf => ?_, ?_⟩
    · simp only [KnowF, FreeF, and_true] at hk hf
      have e52 := (hk.1).ev (v := .int .u8 (p : Int)) rfl
      have e53 := (hk.2.1).ev (v := .bool wide) rfl
      have e54 := (hk.2.2.1).ev (v := .agg #[.int .u64 v, .int .u64 m, .int .u64 lo, .int .u64 hi, .int .i64 sl, .int .i64 sh]) rfl
      have e55 := (hk.2.2.2.1).ev (v := .agg #[.int .u64 xv, .int .u64 xm, .int .u64 xlo, .int .u64 xhi, .int .i64 xsl, .int .i64 xsh]) rfl
      have e56 := (hk.2.2.2.2).ev (v := .bool tk) rfl
      exact flow_call (f := 12) (args := #[.int .u8 (p : Int), .bool wide, .agg #[.int .u64 v, .int .u64 m, .int .u64 lo, .int .u64 hi, .int .i64 sl, .int .i64 sh], .agg #[.int .u64 xv, .int .u64 xm, .int .u64 xlo, .int .u64 xhi, .int .i64 xsl, .int .i64 xsh], .bool tk]) (by go_simp) ((HBR.out _).mono (by rintro e w' ⟨rfl, hb⟩; exact ⟨_, rfl, hb, GV.of rfl⟩))
    refine ⟨fun a9 w9 hR hk hf => ?_, ?_⟩
    · simp only [KnowF, FreeF, and_true] at hk hf
      have e57 := (hk).ev (v := .tuple #[.agg #[.int .u64 cv, .int .u64 cm, .int .u64 cl, .int .u64 ch, .int .i64 ci, .int .i64 cj], .agg #[.int .u64 dv, .int .u64 dm, .int .u64 dl, .int .u64 dh, .int .i64 di, .int .i64 dj], .bool cb]) rfl
      exact flow_run (v := .tuple #[.agg #[.int .u64 cv, .int .u64 cm, .int .u64 cl, .int .u64 ch, .int .i64 ci, .int .i64 cj], .agg #[.int .u64 dv, .int .u64 dm, .int .u64 dl, .int .u64 dh, .int .i64 di, .int .i64 dj], .bool cb]) (by go_simp) (But.refl _ _) (GV.of rfl)
    refine ⟨fun a9 w9 hR hk hf => ?_, ?_⟩
    · simp only [KnowF, FreeF, and_true] at hk hf
      have e48 := (hk).ev (v := .tuple #[.agg #[.int .u64 cv, .int .u64 cm, .int .u64 cl, .int .u64 ch, .int .i64 ci, .int .i64 cj], .agg #[.int .u64 dv, .int .u64 dm, .int .u64 dl, .int .u64 dh, .int .i64 di, .int .i64 dj], .bool cb]) rfl
      exact flow_run (v := .agg #[.int .u64 cv, .int .u64 cm, .int .u64 cl, .int .u64 ch, .int .i64 ci, .int .i64 cj]) (by go_simp) (But.refl _ _) (GV.of rfl)
    refine ⟨fun a9 w9 hR hk hf => ?_, ?_⟩
    · simp only [KnowF, FreeF, and_true] at hk hf
      have e48 := (hk).ev (v := .tuple #[.agg #[.int .u64 cv, .int .u64 cm, .int .u64 cl, .int .u64 ch, .int .i64 ci, .int .i64 cj], .agg #[.int .u64 dv, .int .u64 dm, .int .u64 dl, .int .u64 dh, .int .i64 di, .int .i64 dj], .bool cb]) rfl
      exact flow_run (v := .agg #[.int .u64 dv, .int .u64 dm, .int .u64 dl, .int .u64 dh, .int .i64 di, .int .i64 dj]) (by go_simp) (But.refl _ _) (GV.of rfl)
    refine ⟨fun a9 w9 hR hk hf => ?_, ?_⟩
    · simp only [KnowF, FreeF, and_true] at hk hf
      have e48 := (hk).ev (v := .tuple #[.agg #[.int .u64 cv, .int .u64 cm, .int .u64 cl, .int .u64 ch, .int .i64 ci, .int .i64 cj], .agg #[.int .u64 dv, .int .u64 dm, .int .u64 dl, .int .u64 dh, .int .i64 di, .int .i64 dj], .bool cb]) rfl
      exact flow_run (v := .bool cb) (by go_simp) (But.refl _ _) (GV.of rfl)
    exact trivial
  · exact fun a w => pair_alloc (v := ptr0 w.heap.size) (by unfold ptr0; go_simp)
  · exact fun a w => pair_alloc (v := ptr0 w.heap.size) (by unfold ptr0; go_simp)
  · intro a w k e1 e2 h
    unfold ptr0 at e1
    have f0 := fz_of h 0
    have f1 := fz_of h 1
    have f2 := fz_of h 2
    have f3 := fz_of h 3
    have f4 := fz_of h 4
    have f5 := fz_of h 5
    have c0 := cl_of h 0
    have c1 := cl_of h 1
    have c2 := cl_of h 2
    have c3 := cl_of h 3
    have c4 := cl_of h 4
    have c5 := cl_of h 5
    simp only [List.getElem?_toArray, List.getElem?_cons_zero, List.getElem?_cons_succ] at c0 c1 c2 c3 c4 c5 f0 f1 f2 f3 f4 f5
    exact pair_store rfl (w' := ((((((w.setCell ⟨k, 0, none⟩ (.int .u64 cv)).setCell ⟨k, 1, none⟩ (.int .u64 cm)).setCell ⟨k, 2, none⟩ (.int .u64 cl)).setCell ⟨k, 3, none⟩ (.int .u64 ch)).setCell ⟨k, 4, none⟩ (.int .i64 ci)).setCell ⟨k, 5, none⟩ (.int .i64 cj))) (by go_simp) but6x (set6x h)
  · intro a w k e1 e2 h
    unfold ptr0 at e1
    have f0 := fz_of h 0
    have f1 := fz_of h 1
    have f2 := fz_of h 2
    have f3 := fz_of h 3
    have f4 := fz_of h 4
    have f5 := fz_of h 5
    have c0 := cl_of h 0
    have c1 := cl_of h 1
    have c2 := cl_of h 2
    have c3 := cl_of h 3
    have c4 := cl_of h 4
    have c5 := cl_of h 5
    simp only [List.getElem?_toArray, List.getElem?_cons_zero, List.getElem?_cons_succ] at c0 c1 c2 c3 c4 c5 f0 f1 f2 f3 f4 f5
    exact pair_store rfl (w' := ((((((w.setCell ⟨k, 0, none⟩ (.int .u64 dv)).setCell ⟨k, 1, none⟩ (.int .u64 dm)).setCell ⟨k, 2, none⟩ (.int .u64 dl)).setCell ⟨k, 3, none⟩ (.int .u64 dh)).setCell ⟨k, 4, none⟩ (.int .i64 di)).setCell ⟨k, 5, none⟩ (.int .i64 dj))) (by go_simp) but6x (set6x h)
  · intro a w e
    exact pair_alloc (v := .bool cb) (by go_simp)
  · intro f w kA kB hb eA eB ec h1 h2 h3 h4 h5
    show Q .normal { tmps := List.toArray (.bool wide :: u1 :: u2 :: u3 :: u4 :: u5 :: .pointer (some ⟨ba, 0, none⟩) :: .pointer (some ⟨bx, 0, none⟩) :: u8 :: u9 :: u10 :: .slice (some ⟨LB, 0, none⟩) 11 11 :: .int .i64 (i : Int) :: .bool tk :: u14 :: f 15 :: f 16 :: f 17 :: u18 :: u19 :: u20 :: u21 :: u22 :: u23 :: u24 :: u25 :: u26 :: u27 :: u28 :: u29 :: u30 :: u31 :: u32 :: u33 :: u34 :: u35 :: u36 :: u37 :: u38 :: u39 :: u40 :: u41 :: u42 :: u43 :: u44 :: u45 :: u46 :: u47 :: f 48 :: f 49 :: f 50 :: f 51 :: f 52 :: f 53 :: f 54 :: f 55 :: f 56 :: f 57 :: f 58 :: f 59 :: f 60 :: u61 :: u62 :: u63 :: u64 :: u65 :: u66 :: u67 :: u68 :: u69 :: u70 :: u71 :: u72 :: u73 :: u74 :: u75 :: u76 :: u77 :: u78 :: u79 :: u80 :: u81 :: u82 :: u83 :: u84 :: u85 :: u86 :: u87 :: u88 :: u89 :: u90 :: u91 :: u92 :: u93 :: u94 :: u95 :: u96 :: u97 :: u98 :: u99 :: u100 :: []), defers := [] } w
    unfold ptr0 at eA eB
    rw [eA, eB, ec]
    exact HQ.out _ _ _ _ _ _ _ _ _ _ _ _ _ _ _ _ hb h1 h2 h3 h4 h5
end Go.Proofs.Ytmbmmcippglfoaa.M
