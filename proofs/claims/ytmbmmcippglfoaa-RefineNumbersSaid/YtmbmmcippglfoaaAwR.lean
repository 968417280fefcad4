/-
  awake's drawn statements.
-/
import Derived.Test.YtmbmmcippglfoaaRfG
import Derived.Test.YtmbmmcippglfoaaBrR
import Derived.Test.YtmbmmcippglfoaaGE
namespace Go.Proofs.Ytmbmmcippglfoaa.M
open Go.RowKit Go.Shelf
set_option linter.unusedVariables false
set_option linter.unusedSectionVars false
set_option linter.unusedSimpArgs false
theorem set6x {w : World} {k : Nat} {x0 x1 x2 x3 x4 x5 a b c d e f : Value} {t : TypeId} (h : w.heap[k]? = some (.cells #[x0, x1, x2, x3, x4, x5] t)) : ((((((w.setCell ⟨k, 0, none⟩ a).setCell ⟨k, 1, none⟩ b).setCell ⟨k, 2, none⟩ c).setCell ⟨k, 3, none⟩ d).setCell ⟨k, 4, none⟩ e).setCell ⟨k, 5, none⟩ f).heap[k]? = some (.cells #[a, b, c, d, e, f] t) := by
  simp [World.setCell, Array.getElem?_modify, h]
theorem but6x {w : World} {k : Nat} {a b c d e f : Value} : But [k] w ((((((w.setCell ⟨k, 0, none⟩ a).setCell ⟨k, 1, none⟩ b).setCell ⟨k, 2, none⟩ c).setCell ⟨k, 3, none⟩ d).setCell ⟨k, 4, none⟩ e).setCell ⟨k, 5, none⟩ f) := by
  have hk : k ∈ [k] ∨ w.heap.size ≤ k := .inl (by simp)
  exact ((((((But.refl [k] w).setCell hk _).setCell hk _).setCell hk _).setCell hk _).setCell hk _).setCell hk _
noncomputable def code_aw2 : Code := ((Try.f8.body.getD .skip |> regionR 2).getD .skip)
set_option maxRecDepth 100000 in
set_option maxHeartbeats 8000000 in
theorem aw2 (Q : Exit → Act → World → Prop) {wr : World} {v m lo hi xv xm xlo xhi cv cm cl ch dv dm dl dh : Nat} {sl sh xsl xsh ci cj di dj : Int} {cb : Bool} {ba : Nat} (HA : Hid (wr.heap[ba]? = some (.cells #[.int .u64 v, .int .u64 m, .int .u64 lo, .int .u64 hi, .int .i64 sl, .int .i64 sh] 28))) (HCN : Hid (∀ w, Calls Try.prog 20 #[.int .u64 10] w fun e w' => e = .returned (.agg #[.int .u64 xv, .int .u64 xm, .int .u64 xlo, .int .u64 xhi, .int .i64 xsl, .int .i64 xsh]) ∧ But [] w w')) (HBR : Hid (∀ w, Calls Try.prog 12 #[.int .u8 160, .bool true, .agg #[.int .u64 v, .int .u64 m, .int .u64 lo, .int .u64 hi, .int .i64 sl, .int .i64 sh], .agg #[.int .u64 xv, .int .u64 xm, .int .u64 xlo, .int .u64 xhi, .int .i64 xsl, .int .i64 xsh], .bool true] w fun e w' => e = .returned (.tuple #[.agg #[.int .u64 cv, .int .u64 cm, .int .u64 cl, .int .u64 ch, .int .i64 ci, .int .i64 cj], .agg #[.int .u64 dv, .int .u64 dm, .int .u64 dl, .int .u64 dh, .int .i64 di, .int .i64 dj], .bool cb]) ∧ But [] w w')) {u0 u2 u3 u4 u5 u6 u7 u8 u9 u10 u11 u12 u13 u14 u15 u16 u17 u18 u19 u20 u21 u22 u23 u24 u25 u26 u27 u28 u29 u30 u31 u32 u33 u34 u35 u36 u37 u38 u39 u40 u41 u42 u43 u44 u45 u46 u47 u48 u49 u50 u51 u52 u53 u54 u55 u56 u57 u58 u59 u60 u61 u62 u63 u64 u65 u66 u67 u68 u69 u70 u71 u72 u73 u74 u75 u76 u77 u78 u79 u80 u81 u82 u83 u84 u85 u86 u87 u88 u89 u90 u91 u92 u93 u94 u95 u96 u97 u98 u99 u100 u101 u102 u103 u104 u105 u106 u107 u108 u109 u110 u111 u112 u113 u114 u115 u116 u117 u118 u119 u120 : Value} (hQ : ∀ (z22 z23 z24 z21 z25 z26 z27 : Value) (w6 : World) (k l : Nat), But [] wr w6 → wr.heap.size ≤ k → wr.heap.size ≤ l → k ≠ l → w6.heap[k]? = some (.cells #[.int .u64 cv, .int .u64 cm, .int .u64 cl, .int .u64 ch, .int .i64 ci, .int .i64 cj] 28) → w6.heap[l]? = some (.cells #[.int .u64 dv, .int .u64 dm, .int .u64 dl, .int .u64 dh, .int .i64 di, .int .i64 dj] 28) → Q .normal { tmps := List.toArray (u0 :: .pointer (some ⟨ba, 0, none⟩) :: .pointer (some ⟨k, 0, none⟩) :: .pointer (some ⟨l, 0, none⟩) :: .bool cb :: u5 :: u6 :: u7 :: u8 :: u9 :: u10 :: u11 :: u12 :: u13 :: u14 :: u15 :: u16 :: u17 :: u18 :: u19 :: u20 :: z21 :: z22 :: z23 :: z24 :: z25 :: z26 :: z27 :: u28 :: u29 :: u30 :: u31 :: u32 :: u33 :: u34 :: u35 :: u36 :: u37 :: u38 :: u39 :: u40 :: u41 :: u42 :: u43 :: u44 :: u45 :: u46 :: u47 :: u48 :: u49 :: u50 :: u51 :: u52 :: u53 :: u54 :: u55 :: u56 :: u57 :: u58 :: u59 :: u60 :: u61 :: u62 :: u63 :: u64 :: u65 :: u66 :: u67 :: u68 :: u69 :: u70 :: u71 :: u72 :: u73 :: u74 :: u75 :: u76 :: u77 :: u78 :: u79 :: u80 :: u81 :: u82 :: u83 :: u84 :: u85 :: u86 :: u87 :: u88 :: u89 :: u90 :: u91 :: u92 :: u93 :: u94 :: u95 :: u96 :: u97 :: u98 :: u99 :: u100 :: u101 :: u102 :: u103 :: u104 :: u105 :: u106 :: u107 :: u108 :: u109 :: u110 :: u111 :: u112 :: u113 :: u114 :: u115 :: u116 :: u117 :: u118 :: u119 :: u120 :: []), defers := [] } w6) :
    Code.wp Try.prog code_aw2 Q { tmps := List.toArray (u0 :: .pointer (some ⟨ba, 0, none⟩) :: u2 :: u3 :: u4 :: u5 :: u6 :: u7 :: u8 :: u9 :: u10 :: u11 :: u12 :: u13 :: u14 :: u15 :: u16 :: u17 :: u18 :: u19 :: u20 :: u21 :: u22 :: u23 :: u24 :: u25 :: u26 :: u27 :: u28 :: u29 :: u30 :: u31 :: u32 :: u33 :: u34 :: u35 :: u36 :: u37 :: u38 :: u39 :: u40 :: u41 :: u42 :: u43 :: u44 :: u45 :: u46 :: u47 :: u48 :: u49 :: u50 :: u51 :: u52 :: u53 :: u54 :: u55 :: u56 :: u57 :: u58 :: u59 :: u60 :: u61 :: u62 :: u63 :: u64 :: u65 :: u66 :: u67 :: u68 :: u69 :: u70 :: u71 :: u72 :: u73 :: u74 :: u75 :: u76 :: u77 :: u78 :: u79 :: u80 :: u81 :: u82 :: u83 :: u84 :: u85 :: u86 :: u87 :: u88 :: u89 :: u90 :: u91 :: u92 :: u93 :: u94 :: u95 :: u96 :: u97 :: u98 :: u99 :: u100 :: u101 :: u102 :: u103 :: u104 :: u105 :: u106 :: u107 :: u108 :: u109 :: u110 :: u111 :: u112 :: u113 :: u114 :: u115 :: u116 :: u117 :: u118 :: u119 :: u120 :: []), defers := [] } wr := by
  have HQ := Lib.hid hQ
  clear hQ
  conv => arg 2; whnf
  refine wp_region_pair 7 (by kernel_rfl) (by kernel_rfl) [.agg #[.int .u64 v, .int .u64 m, .int .u64 lo, .int .u64 hi, .int .i64 sl, .int .i64 sh], .agg #[.int .u64 xv, .int .u64 xm, .int .u64 xlo, .int .u64 xhi, .int .i64 xsl, .int .i64 xsh], .tuple #[.agg #[.int .u64 cv, .int .u64 cm, .int .u64 cl, .int .u64 ch, .int .i64 ci, .int .i64 cj], .agg #[.int .u64 dv, .int .u64 dm, .int .u64 dl, .int .u64 dh, .int .i64 di, .int .i64 dj], .bool cb], .tuple #[.agg #[.int .u64 cv, .int .u64 cm, .int .u64 cl, .int .u64 ch, .int .i64 ci, .int .i64 cj], .agg #[.int .u64 dv, .int .u64 dm, .int .u64 dl, .int .u64 dh, .int .i64 di, .int .i64 dj], .bool cb], .agg #[.int .u64 cv, .int .u64 cm, .int .u64 cl, .int .u64 ch, .int .i64 ci, .int .i64 cj], .agg #[.int .u64 dv, .int .u64 dm, .int .u64 dl, .int .u64 dh, .int .i64 di, .int .i64 dj], .bool cb] [[], [], [(0, 22), (1, 23)], [(2, 24)], [(3, 21)], [(3, 21)], [(3, 21)]] [[(1, .pointer (some ⟨ba, 0, none⟩))], [], [], [], [], [], []] (by kernel_rfl) (by kernel_rfl) (by kernel_rfl) ?_ ?_ [none, none, some 2, some 3, some 4, none, none, none, none, none, none, none, none, none, none, none, none, none, none, none, none, some 21, some 22, some 23, some 24, some 25, some 26, some 27, none, none, none, none, none, none, none, none, none, none, none, none, none, none, none, none, none, none, none, none, none, none, none, none, none, none, none, none, none, none, none, none, none, none, none, none, none, none, none, none, none, none, none, none, none, none, none, none, none, none, none, none, none, none, none, none, none, none, none, none, none, none, none, none, none, none, none, none, none, none, none, none, none, none, none, none, none, none, none, none, none, none, none, none, none, none, none, none, none, none, none, none, none] (by kernel_rfl) (by rfl) (jx := 4) (jy := 5) (jz := 6) (sx := 25) (sy := 26) (sz := 27) (A := 2) (B := 3) (c := 4) (zs := #[.int .u64 0, .int .u64 0, .int .u64 0, .int .u64 0, .int .i64 0, .int .i64 0]) (cx := #[.int .u64 cv, .int .u64 cm, .int .u64 cl, .int .u64 ch, .int .i64 ci, .int .i64 cj]) (cy := #[.int .u64 dv, .int .u64 dm, .int .u64 dl, .int .u64 dh, .int .i64 di, .int .i64 dj]) (t := 28) (vx := .agg #[.int .u64 cv, .int .u64 cm, .int .u64 cl, .int .u64 ch, .int .i64 ci, .int .i64 cj]) (vy := .agg #[.int .u64 dv, .int .u64 dm, .int .u64 dl, .int .u64 dh, .int .i64 di, .int .i64 dj]) (vz := .bool cb) rfl rfl rfl rfl rfl rfl rfl rfl rfl rfl (by kernel_rfl) (by kernel_rfl) (by kernel_rfl) rfl (by kernel_rfl) rfl (by kernel_rfl) rfl ?_ ?_ ?_ ?_ ?_ ?_
  · exact ⟨⟨rfl, trivial⟩, trivial, trivial, trivial, trivial, trivial, trivial, trivial⟩
  · simp only [List.take_succ_cons, List.take_zero]
    refine ⟨fun a9 w9 hR hk hf => ?_, ?_⟩
    · simp only [KnowF, FreeF, and_true] at hk hf
      have e1 : a9.tmps[1]?.getD undef = .pointer (some ⟨ba, 0, none⟩) := freeF_ev hf
      have hh := hR.heap HA.out (by simp)
      have f0 := cl_of hh 0
      have f1 := cl_of hh 1
      have f2 := cl_of hh 2
      have f3 := cl_of hh 3
      have f4 := cl_of hh 4
      have f5 := cl_of hh 5
      simp only [List.getElem?_toArray, List.getElem?_cons_zero, List.getElem?_cons_succ] at f0 f1 f2 f3 f4 f5
      clear hh
      exact flow_run (v := .agg #[.int .u64 v, .int .u64 m, .int .u64 lo, .int .u64 hi, .int .i64 sl, .int .i64 sh]) (by go_simp) (But.refl _ _) (GV.of rfl)
    refine ⟨fun a9 w9 hR hk hf => ?_, ?_⟩
    · simp only [KnowF, FreeF, and_true] at hk hf
      exact flow_call (f := 20) (args := #[.int .u64 10]) (by go_simp) ((HCN.out _).mono (by rintro e w' ⟨rfl, hb⟩; exact ⟨_, rfl, hb, GV.of rfl⟩))
    refine ⟨fun a9 w9 hR hk hf => ?_, ?_⟩
    · simp only [KnowF, FreeF, and_true] at hk hf
      have e22 := (hk.1).ev (v := .agg #[.int .u64 v, .int .u64 m, .int .u64 lo, .int .u64 hi, .int .i64 sl, .int .i64 sh]) rfl
      have e23 := (hk.2).ev (v := .agg #[.int .u64 xv, .int .u64 xm, .int .u64 xlo, .int .u64 xhi, .int .i64 xsl, .int .i64 xsh]) rfl
      exact flow_call (f := 12) (args := #[.int .u8 160, .bool true, .agg #[.int .u64 v, .int .u64 m, .int .u64 lo, .int .u64 hi, .int .i64 sl, .int .i64 sh], .agg #[.int .u64 xv, .int .u64 xm, .int .u64 xlo, .int .u64 xhi, .int .i64 xsl, .int .i64 xsh], .bool true]) (by go_simp) ((HBR.out _).mono (by rintro e w' ⟨rfl, hb⟩; exact ⟨_, rfl, hb, GV.of rfl⟩))
    refine ⟨fun a9 w9 hR hk hf => ?_, ?_⟩
    · simp only [KnowF, FreeF, and_true] at hk hf
      have e24 := (hk).ev (v := .tuple #[.agg #[.int .u64 cv, .int .u64 cm, .int .u64 cl, .int .u64 ch, .int .i64 ci, .int .i64 cj], .agg #[.int .u64 dv, .int .u64 dm, .int .u64 dl, .int .u64 dh, .int .i64 di, .int .i64 dj], .bool cb]) rfl
      exact flow_run (v := .tuple #[.agg #[.int .u64 cv, .int .u64 cm, .int .u64 cl, .int .u64 ch, .int .i64 ci, .int .i64 cj], .agg #[.int .u64 dv, .int .u64 dm, .int .u64 dl, .int .u64 dh, .int .i64 di, .int .i64 dj], .bool cb]) (by go_simp) (But.refl _ _) (GV.of rfl)
    refine ⟨fun a9 w9 hR hk hf => ?_, ?_⟩
    · simp only [KnowF, FreeF, and_true] at hk hf
      have e21 := (hk).ev (v := .tuple #[.agg #[.int .u64 cv, .int .u64 cm, .int .u64 cl, .int .u64 ch, .int .i64 ci, .int .i64 cj], .agg #[.int .u64 dv, .int .u64 dm, .int .u64 dl, .int .u64 dh, .int .i64 di, .int .i64 dj], .bool cb]) rfl
      exact flow_run (v := .agg #[.int .u64 cv, .int .u64 cm, .int .u64 cl, .int .u64 ch, .int .i64 ci, .int .i64 cj]) (by go_simp) (But.refl _ _) (GV.of rfl)
    refine ⟨fun a9 w9 hR hk hf => ?_, ?_⟩
    · simp only [KnowF, FreeF, and_true] at hk hf
      have e21 := (hk).ev (v := .tuple #[.agg #[.int .u64 cv, .int .u64 cm, .int .u64 cl, .int .u64 ch, .int .i64 ci, .int .i64 cj], .agg #[.int .u64 dv, .int .u64 dm, .int .u64 dl, .int .u64 dh, .int .i64 di, .int .i64 dj], .bool cb]) rfl
      exact flow_run (v := .agg #[.int .u64 dv, .int .u64 dm, .int .u64 dl, .int .u64 dh, .int .i64 di, .int .i64 dj]) (by go_simp) (But.refl _ _) (GV.of rfl)
    refine ⟨fun a9 w9 hR hk hf => ?_, ?_⟩
    · simp only [KnowF, FreeF, and_true] at hk hf
      have e21 := (hk).ev (v := .tuple #[.agg #[.int .u64 cv, .int .u64 cm, .int .u64 cl, .int .u64 ch, .int .i64 ci, .int .i64 cj], .agg #[.int .u64 dv, .int .u64 dm, .int .u64 dl, .int .u64 dh, .int .i64 di, .int .i64 dj], .bool cb]) rfl
      exact flow_run (v := .bool cb) (by go_simp) (But.refl _ _) (GV.of rfl)
    exact trivial
  · exact fun a w => pair_alloc (v := ptr0 w.heap.size) (by unfold ptr0; go_simp)
  · exact fun a w => pair_alloc (v := ptr0 w.heap.size) (by unfold ptr0; go_simp)
  · intro a w k e1 e2 h
    unfold ptr0 at e1
    have f0 := fz_of h 0
    have f1 := fz_of h 1
    have f2 := fz_of h 2
    have f3 := fz_of h 3
    have f4 := fz_of h 4
    have f5 := fz_of h 5
    have c0 := cl_of h 0
    have c1 := cl_of h 1
    have c2 := cl_of h 2
    have c3 := cl_of h 3
    have c4 := cl_of h 4
    have c5 := cl_of h 5
    simp only [List.getElem?_toArray, List.getElem?_cons_zero, List.getElem?_cons_succ] at c0 c1 c2 c3 c4 c5 f0 f1 f2 f3 f4 f5
    exact pair_store rfl (w' := ((((((w.setCell ⟨k, 0, none⟩ (.int .u64 cv)).setCell ⟨k, 1, none⟩ (.int .u64 cm)).setCell ⟨k, 2, none⟩ (.int .u64 cl)).setCell ⟨k, 3, none⟩ (.int .u64 ch)).setCell ⟨k, 4, none⟩ (.int .i64 ci)).setCell ⟨k, 5, none⟩ (.int .i64 cj))) (by go_simp) but6x (set6x h)
  · intro a w k e1 e2 h
    unfold ptr0 at e1
    have f0 := fz_of h 0
    have f1 := fz_of h 1
    have f2 := fz_of h 2
    have f3 := fz_of h 3
    have f4 := fz_of h 4
    have f5 := fz_of h 5
    have c0 := cl_of h 0
    have c1 := cl_of h 1
    have c2 := cl_of h 2
    have c3 := cl_of h 3
    have c4 := cl_of h 4
    have c5 := cl_of h 5
    simp only [List.getElem?_toArray, List.getElem?_cons_zero, List.getElem?_cons_succ] at c0 c1 c2 c3 c4 c5 f0 f1 f2 f3 f4 f5
    exact pair_store rfl (w' := ((((((w.setCell ⟨k, 0, none⟩ (.int .u64 dv)).setCell ⟨k, 1, none⟩ (.int .u64 dm)).setCell ⟨k, 2, none⟩ (.int .u64 dl)).setCell ⟨k, 3, none⟩ (.int .u64 dh)).setCell ⟨k, 4, none⟩ (.int .i64 di)).setCell ⟨k, 5, none⟩ (.int .i64 dj))) (by go_simp) but6x (set6x h)
  · intro a w e
    exact pair_alloc (v := .bool cb) (by go_simp)
  · intro f w kA kB hb eA eB ec h1 h2 h3 h4 h5
    show Q .normal { tmps := List.toArray (u0 :: .pointer (some ⟨ba, 0, none⟩) :: f 2 :: f 3 :: f 4 :: u5 :: u6 :: u7 :: u8 :: u9 :: u10 :: u11 :: u12 :: u13 :: u14 :: u15 :: u16 :: u17 :: u18 :: u19 :: u20 :: f 21 :: f 22 :: f 23 :: f 24 :: f 25 :: f 26 :: f 27 :: u28 :: u29 :: u30 :: u31 :: u32 :: u33 :: u34 :: u35 :: u36 :: u37 :: u38 :: u39 :: u40 :: u41 :: u42 :: u43 :: u44 :: u45 :: u46 :: u47 :: u48 :: u49 :: u50 :: u51 :: u52 :: u53 :: u54 :: u55 :: u56 :: u57 :: u58 :: u59 :: u60 :: u61 :: u62 :: u63 :: u64 :: u65 :: u66 :: u67 :: u68 :: u69 :: u70 :: u71 :: u72 :: u73 :: u74 :: u75 :: u76 :: u77 :: u78 :: u79 :: u80 :: u81 :: u82 :: u83 :: u84 :: u85 :: u86 :: u87 :: u88 :: u89 :: u90 :: u91 :: u92 :: u93 :: u94 :: u95 :: u96 :: u97 :: u98 :: u99 :: u100 :: u101 :: u102 :: u103 :: u104 :: u105 :: u106 :: u107 :: u108 :: u109 :: u110 :: u111 :: u112 :: u113 :: u114 :: u115 :: u116 :: u117 :: u118 :: u119 :: u120 :: []), defers := [] } w
    unfold ptr0 at eA eB
    rw [eA, eB, ec]
    exact HQ.out _ _ _ _ _ _ _ _ _ _ hb h1 h2 h3 h4 h5
noncomputable def code_aw3 : Code := ((Try.f8.body.getD .skip |> regionR 3).getD .skip)
set_option maxRecDepth 100000 in
set_option maxHeartbeats 8000000 in
theorem aw3 (Q : Exit → Act → World → Prop) {wr : World} {v m lo hi xv xm xlo xhi cv cm cl ch dv dm dl dh : Nat} {sl sh xsl xsh ci cj di dj : Int} {cb : Bool} {ba : Nat} (HA : Hid (wr.heap[ba]? = some (.cells #[.int .u64 v, .int .u64 m, .int .u64 lo, .int .u64 hi, .int .i64 sl, .int .i64 sh] 28))) (HCN : Hid (∀ w, Calls Try.prog 20 #[.int .u64 10] w fun e w' => e = .returned (.agg #[.int .u64 xv, .int .u64 xm, .int .u64 xlo, .int .u64 xhi, .int .i64 xsl, .int .i64 xsh]) ∧ But [] w w')) (HBR : Hid (∀ w, Calls Try.prog 12 #[.int .u8 160, .bool true, .agg #[.int .u64 v, .int .u64 m, .int .u64 lo, .int .u64 hi, .int .i64 sl, .int .i64 sh], .agg #[.int .u64 xv, .int .u64 xm, .int .u64 xlo, .int .u64 xhi, .int .i64 xsl, .int .i64 xsh], .bool false] w fun e w' => e = .returned (.tuple #[.agg #[.int .u64 cv, .int .u64 cm, .int .u64 cl, .int .u64 ch, .int .i64 ci, .int .i64 cj], .agg #[.int .u64 dv, .int .u64 dm, .int .u64 dl, .int .u64 dh, .int .i64 di, .int .i64 dj], .bool cb]) ∧ But [] w w')) {u0 u2 u3 u4 u5 u6 u7 u8 u9 u10 u11 u12 u13 u14 u15 u16 u17 u18 u19 u20 u21 u22 u23 u24 u25 u26 u27 u28 u29 u30 u31 u32 u33 u34 u35 u36 u37 u38 u39 u40 u41 u42 u43 u44 u45 u46 u47 u48 u49 u50 u51 u52 u53 u54 u55 u56 u57 u58 u59 u60 u61 u62 u63 u64 u65 u66 u67 u68 u69 u70 u71 u72 u73 u74 u75 u76 u77 u78 u79 u80 u81 u82 u83 u84 u85 u86 u87 u88 u89 u90 u91 u92 u93 u94 u95 u96 u97 u98 u99 u100 u101 u102 u103 u104 u105 u106 u107 u108 u109 u110 u111 u112 u113 u114 u115 u116 u117 u118 u119 u120 : Value} (hQ : ∀ (z29 z30 z31 z28 z32 z33 z34 : Value) (w6 : World) (k l : Nat), But [] wr w6 → wr.heap.size ≤ k → wr.heap.size ≤ l → k ≠ l → w6.heap[k]? = some (.cells #[.int .u64 cv, .int .u64 cm, .int .u64 cl, .int .u64 ch, .int .i64 ci, .int .i64 cj] 28) → w6.heap[l]? = some (.cells #[.int .u64 dv, .int .u64 dm, .int .u64 dl, .int .u64 dh, .int .i64 di, .int .i64 dj] 28) → Q .normal { tmps := List.toArray (u0 :: .pointer (some ⟨ba, 0, none⟩) :: u2 :: u3 :: u4 :: .pointer (some ⟨k, 0, none⟩) :: .pointer (some ⟨l, 0, none⟩) :: .bool cb :: u8 :: u9 :: u10 :: u11 :: u12 :: u13 :: u14 :: u15 :: u16 :: u17 :: u18 :: u19 :: u20 :: u21 :: u22 :: u23 :: u24 :: u25 :: u26 :: u27 :: z28 :: z29 :: z30 :: z31 :: z32 :: z33 :: z34 :: u35 :: u36 :: u37 :: u38 :: u39 :: u40 :: u41 :: u42 :: u43 :: u44 :: u45 :: u46 :: u47 :: u48 :: u49 :: u50 :: u51 :: u52 :: u53 :: u54 :: u55 :: u56 :: u57 :: u58 :: u59 :: u60 :: u61 :: u62 :: u63 :: u64 :: u65 :: u66 :: u67 :: u68 :: u69 :: u70 :: u71 :: u72 :: u73 :: u74 :: u75 :: u76 :: u77 :: u78 :: u79 :: u80 :: u81 :: u82 :: u83 :: u84 :: u85 :: u86 :: u87 :: u88 :: u89 :: u90 :: u91 :: u92 :: u93 :: u94 :: u95 :: u96 :: u97 :: u98 :: u99 :: u100 :: u101 :: u102 :: u103 :: u104 :: u105 :: u106 :: u107 :: u108 :: u109 :: u110 :: u111 :: u112 :: u113 :: u114 :: u115 :: u116 :: u117 :: u118 :: u119 :: u120 :: []), defers := [] } w6) :
    Code.wp Try.prog code_aw3 Q { tmps := List.toArray (u0 :: .pointer (some ⟨ba, 0, none⟩) :: u2 :: u3 :: u4 :: u5 :: u6 :: u7 :: u8 :: u9 :: u10 :: u11 :: u12 :: u13 :: u14 :: u15 :: u16 :: u17 :: u18 :: u19 :: u20 :: u21 :: u22 :: u23 :: u24 :: u25 :: u26 :: u27 :: u28 :: u29 :: u30 :: u31 :: u32 :: u33 :: u34 :: u35 :: u36 :: u37 :: u38 :: u39 :: u40 :: u41 :: u42 :: u43 :: u44 :: u45 :: u46 :: u47 :: u48 :: u49 :: u50 :: u51 :: u52 :: u53 :: u54 :: u55 :: u56 :: u57 :: u58 :: u59 :: u60 :: u61 :: u62 :: u63 :: u64 :: u65 :: u66 :: u67 :: u68 :: u69 :: u70 :: u71 :: u72 :: u73 :: u74 :: u75 :: u76 :: u77 :: u78 :: u79 :: u80 :: u81 :: u82 :: u83 :: u84 :: u85 :: u86 :: u87 :: u88 :: u89 :: u90 :: u91 :: u92 :: u93 :: u94 :: u95 :: u96 :: u97 :: u98 :: u99 :: u100 :: u101 :: u102 :: u103 :: u104 :: u105 :: u106 :: u107 :: u108 :: u109 :: u110 :: u111 :: u112 :: u113 :: u114 :: u115 :: u116 :: u117 :: u118 :: u119 :: u120 :: []), defers := [] } wr := by
  have HQ := Lib.hid hQ
  clear hQ
  conv => arg 2; whnf
  refine wp_region_pair 7 (by kernel_rfl) (by kernel_rfl) [.agg #[.int .u64 v, .int .u64 m, .int .u64 lo, .int .u64 hi, .int .i64 sl, .int .i64 sh], .agg #[.int .u64 xv, .int .u64 xm, .int .u64 xlo, .int .u64 xhi, .int .i64 xsl, .int .i64 xsh], .tuple #[.agg #[.int .u64 cv, .int .u64 cm, .int .u64 cl, .int .u64 ch, .int .i64 ci, .int .i64 cj], .agg #[.int .u64 dv, .int .u64 dm, .int .u64 dl, .int .u64 dh, .int .i64 di, .int .i64 dj], .bool cb], .tuple #[.agg #[.int .u64 cv, .int .u64 cm, .int .u64 cl, .int .u64 ch, .int .i64 ci, .int .i64 cj], .agg #[.int .u64 dv, .int .u64 dm, .int .u64 dl, .int .u64 dh, .int .i64 di, .int .i64 dj], .bool cb], .agg #[.int .u64 cv, .int .u64 cm, .int .u64 cl, .int .u64 ch, .int .i64 ci, .int .i64 cj], .agg #[.int .u64 dv, .int .u64 dm, .int .u64 dl, .int .u64 dh, .int .i64 di, .int .i64 dj], .bool cb] [[], [], [(0, 29), (1, 30)], [(2, 31)], [(3, 28)], [(3, 28)], [(3, 28)]] [[(1, .pointer (some ⟨ba, 0, none⟩))], [], [], [], [], [], []] (by kernel_rfl) (by kernel_rfl) (by kernel_rfl) ?_ ?_ [none, none, none, none, none, some 5, some 6, some 7, none, none, none, none, none, none, none, none, none, none, none, none, none, none, none, none, none, none, none, none, some 28, some 29, some 30, some 31, some 32, some 33, some 34, none, none, none, none, none, none, none, none, none, none, none, none, none, none, none, none, none, none, none, none, none, none, none, none, none, none, none, none, none, none, none, none, none, none, none, none, none, none, none, none, none, none, none, none, none, none, none, none, none, none, none, none, none, none, none, none, none, none, none, none, none, none, none, none, none, none, none, none, none, none, none, none, none, none, none, none, none, none, none, none, none, none, none, none, none, none] (by kernel_rfl) (by rfl) (jx := 4) (jy := 5) (jz := 6) (sx := 32) (sy := 33) (sz := 34) (A := 5) (B := 6) (c := 7) (zs := #[.int .u64 0, .int .u64 0, .int .u64 0, .int .u64 0, .int .i64 0, .int .i64 0]) (cx := #[.int .u64 cv, .int .u64 cm, .int .u64 cl, .int .u64 ch, .int .i64 ci, .int .i64 cj]) (cy := #[.int .u64 dv, .int .u64 dm, .int .u64 dl, .int .u64 dh, .int .i64 di, .int .i64 dj]) (t := 28) (vx := .agg #[.int .u64 cv, .int .u64 cm, .int .u64 cl, .int .u64 ch, .int .i64 ci, .int .i64 cj]) (vy := .agg #[.int .u64 dv, .int .u64 dm, .int .u64 dl, .int .u64 dh, .int .i64 di, .int .i64 dj]) (vz := .bool cb) rfl rfl rfl rfl rfl rfl rfl rfl rfl rfl (by kernel_rfl) (by kernel_rfl) (by kernel_rfl) rfl (by kernel_rfl) rfl (by kernel_rfl) rfl ?_ ?_ ?_ ?_ ?_ ?_
  · exact ⟨⟨rfl, trivial⟩, trivial, trivial, trivial, trivial, trivial, trivial, trivial⟩
  · simp only [List.take_succ_cons, List.take_zero]
    refine ⟨fun a9 w9 hR hk hf => ?_, ?_⟩
    · simp only [KnowF, FreeF, and_true] at hk hf
      have e1 : a9.tmps[1]?.getD undef = .pointer (some ⟨ba, 0, none⟩) := freeF_ev hf
      have hh := hR.heap HA.out (by simp)
      have f0 := cl_of hh 0
      have f1 := cl_of hh 1
      have f2 := cl_of hh 2
      have f3 := cl_of hh 3
      have f4 := cl_of hh 4
      have f5 := cl_of hh 5
      simp only [List.getElem?_toArray, List.getElem?_cons_zero, List.getElem?_cons_succ] at f0 f1 f2 f3 f4 f5
      clear hh
      exact flow_run (v := .agg #[.int .u64 v, .int .u64 m, .int .u64 lo, .int .u64 hi, .int .i64 sl, .int .i64 sh]) (by go_simp) (But.refl _ _) (GV.of rfl)
    refine ⟨fun a9 w9 hR hk hf => ?_, ?_⟩
    · simp only [KnowF, FreeF, and_true] at hk hf
      exact flow_call (f := 20) (args := #[.int .u64 10]) (by go_simp) ((HCN.out _).mono (by rintro e w' ⟨rfl, hb⟩; exact ⟨_, rfl, hb, GV.of rfl⟩))
    refine ⟨fun a9 w9 hR hk hf => ?_, ?_⟩
    · simp only [KnowF, FreeF, and_true] at hk hf
      have e29 := (hk.1).ev (v := .agg #[.int .u64 v, .int .u64 m, .int .u64 lo, .int .u64 hi, .int .i64 sl, .int .i64 sh]) rfl
      have e30 := (hk.2).ev (v := .agg #[.int .u64 xv, .int .u64 xm, .int .u64 xlo, .int .u64 xhi, .int .i64 xsl, .int .i64 xsh]) rfl
      exact flow_call (f := 12) (args := #[.int .u8 160, .bool true, .agg #[.int .u64 v, .int .u64 m, .int .u64 lo, .int .u64 hi, .int .i64 sl, .int .i64 sh], .agg #[.int .u64 xv, .int .u64 xm, .int .u64 xlo, .int .u64 xhi, .int .i64 xsl, .int .i64 xsh], .bool false]) (by go_simp) ((HBR.out _).mono (by rintro e w' ⟨rfl, hb⟩; exact ⟨_, rfl, hb, GV.of rfl⟩))
    refine ⟨fun a9 w9 hR hk hf => ?_, ?_⟩
    · simp only [KnowF, FreeF, and_true] at hk hf
      have e31 := (hk).ev (v := .tuple #[.agg #[.int .u64 cv, .int .u64 cm, .int .u64 cl, .int .u64 ch, .int .i64 ci, .int .i64 cj], .agg #[.int .u64 dv, .int .u64 dm, .int .u64 dl, .int .u64 dh, .int .i64 di, .int .i64 dj], .bool cb]) rfl
      exact flow_run (v := .tuple #[.agg #[.int .u64 cv, .int .u64 cm, .int .u64 cl, .int .u64 ch, .int .i64 ci, .int .i64 cj], .agg #[.int .u64 dv, .int .u64 dm, .int .u64 dl, .int .u64 dh, .int .i64 di, .int .i64 dj], .bool cb]) (by go_simp) (But.refl _ _) (GV.of rfl)
    refine ⟨fun a9 w9 hR hk hf => ?_, ?_⟩
    · simp only [KnowF, FreeF, and_true] at hk hf
      have e28 := (hk).ev (v := .tuple #[.agg #[.int .u64 cv, .int .u64 cm, .int .u64 cl, .int .u64 ch, .int .i64 ci, .int .i64 cj], .agg #[.int .u64 dv, .int .u64 dm, .int .u64 dl, .int .u64 dh, .int .i64 di, .int .i64 dj], .bool cb]) rfl
      exact flow_run (v := .agg #[.int .u64 cv, .int .u64 cm, .int .u64 cl, .int .u64 ch, .int .i64 ci, .int .i64 cj]) (by go_simp) (But.refl _ _) (GV.of rfl)
    refine ⟨fun a9 w9 hR hk hf => ?_, ?_⟩
    · simp only [KnowF, FreeF, and_true] at hk hf
      have e28 := (hk).ev (v := .tuple #[.agg #[.int .u64 cv, .int .u64 cm, .int .u64 cl, .int .u64 ch, .int .i64 ci, .int .i64 cj], .agg #[.int .u64 dv, .int .u64 dm, .int .u64 dl, .int .u64 dh, .int .i64 di, .int .i64 dj], .bool cb]) rfl
      exact flow_run (v := .agg #[.int .u64 dv, .int .u64 dm, .int .u64 dl, .int .u64 dh, .int .i64 di, .int .i64 dj]) (by go_simp) (But.refl _ _) (GV.of rfl)
    refine ⟨fun a9 w9 hR hk hf => ?_, ?_⟩
    · simp only [KnowF, FreeF, and_true] at hk hf
      have e28 := (hk).ev (v := .tuple #[.agg #[.int .u64 cv, .int .u64 cm, .int .u64 cl, .int .u64 ch, .int .i64 ci, .int .i64 cj], .agg #[.int .u64 dv, .int .u64 dm, .int .u64 dl, .int .u64 dh, .int .i64 di, .int .i64 dj], .bool cb]) rfl
      exact flow_run (v := .bool cb) (by go_simp) (But.refl _ _) (GV.of rfl)
    exact trivial
  · exact fun a w => pair_alloc (v := ptr0 w.heap.size) (by unfold ptr0; go_simp)
  · exact fun a w => pair_alloc (v := ptr0 w.heap.size) (by unfold ptr0; go_simp)
  · intro a w k e1 e2 h
    unfold ptr0 at e1
    have f0 := fz_of h 0
    have f1 := fz_of h 1
    have f2 := fz_of h 2
    have f3 := fz_of h 3
    have f4 := fz_of h 4
    have f5 := fz_of h 5
    have c0 := cl_of h 0
    have c1 := cl_of h 1
    have c2 := cl_of h 2
    have c3 := cl_of h 3
    have c4 := cl_of h 4
    have c5 := cl_of h 5
    simp only [List.getElem?_toArray, List.getElem?_cons_zero, List.getElem?_cons_succ] at c0 c1 c2 c3 c4 c5 f0 f1 f2 f3 f4 f5
    exact pair_store rfl (w' := ((((((w.setCell ⟨k, 0, none⟩ (.int .u64 cv)).setCell ⟨k, 1, none⟩ (.int .u64 cm)).setCell ⟨k, 2, none⟩ (.int .u64 cl)).setCell ⟨k, 3, none⟩ (.int .u64 ch)).setCell ⟨k, 4, none⟩ (.int .i64 ci)).setCell ⟨k, 5, none⟩ (.int .i64 cj))) (by go_simp) but6x (set6x h)
  · intro a w k e1 e2 h
    unfold ptr0 at e1
    have f0 := fz_of h 0
    have f1 := fz_of h 1
    have f2 := fz_of h 2
    have f3 := fz_of h 3
    have f4 := fz_of h 4
    have f5 := fz_of h 5
    have c0 := cl_of h 0
    have c1 := cl_of h 1
    have c2 := cl_of h 2
    have c3 := cl_of h 3
    have c4 := cl_of h 4
    have c5 := cl_of h 5
    simp only [List.getElem?_toArray, List.getElem?_cons_zero, List.getElem?_cons_succ] at c0 c1 c2 c3 c4 c5 f0 f1 f2 f3 f4 f5
    exact pair_store rfl (w' := ((((((w.setCell ⟨k, 0, none⟩ (.int .u64 dv)).setCell ⟨k, 1, none⟩ (.int .u64 dm)).setCell ⟨k, 2, none⟩ (.int .u64 dl)).setCell ⟨k, 3, none⟩ (.int .u64 dh)).setCell ⟨k, 4, none⟩ (.int .i64 di)).setCell ⟨k, 5, none⟩ (.int .i64 dj))) (by go_simp) but6x (set6x h)
  · intro a w e
    exact pair_alloc (v := .bool cb) (by go_simp)
  · intro f w kA kB hb eA eB ec h1 h2 h3 h4 h5
    show Q .normal { tmps := List.toArray (u0 :: .pointer (some ⟨ba, 0, none⟩) :: u2 :: u3 :: u4 :: f 5 :: f 6 :: f 7 :: u8 :: u9 :: u10 :: u11 :: u12 :: u13 :: u14 :: u15 :: u16 :: u17 :: u18 :: u19 :: u20 :: u21 :: u22 :: u23 :: u24 :: u25 :: u26 :: u27 :: f 28 :: f 29 :: f 30 :: f 31 :: f 32 :: f 33 :: f 34 :: u35 :: u36 :: u37 :: u38 :: u39 :: u40 :: u41 :: u42 :: u43 :: u44 :: u45 :: u46 :: u47 :: u48 :: u49 :: u50 :: u51 :: u52 :: u53 :: u54 :: u55 :: u56 :: u57 :: u58 :: u59 :: u60 :: u61 :: u62 :: u63 :: u64 :: u65 :: u66 :: u67 :: u68 :: u69 :: u70 :: u71 :: u72 :: u73 :: u74 :: u75 :: u76 :: u77 :: u78 :: u79 :: u80 :: u81 :: u82 :: u83 :: u84 :: u85 :: u86 :: u87 :: u88 :: u89 :: u90 :: u91 :: u92 :: u93 :: u94 :: u95 :: u96 :: u97 :: u98 :: u99 :: u100 :: u101 :: u102 :: u103 :: u104 :: u105 :: u106 :: u107 :: u108 :: u109 :: u110 :: u111 :: u112 :: u113 :: u114 :: u115 :: u116 :: u117 :: u118 :: u119 :: u120 :: []), defers := [] } w
    unfold ptr0 at eA eB
    rw [eA, eB, ec]
    exact HQ.out _ _ _ _ _ _ _ _ _ _ hb h1 h2 h3 h4 h5
noncomputable def code_aw6 : Code := ((Try.f8.body.getD .skip |> regionR 6).getD .skip)
set_option maxRecDepth 100000 in
set_option maxHeartbeats 8000000 in
theorem aw6 (Q : Exit → Act → World → Prop) {wr : World} {v m lo hi xv xm xlo xhi cv cm cl ch dv dm dl dh : Nat} {sl sh xsl xsh ci cj di dj : Int} {cb : Bool} {ba : Nat} (HA : Hid (wr.heap[ba]? = some (.cells #[.int .u64 v, .int .u64 m, .int .u64 lo, .int .u64 hi, .int .i64 sl, .int .i64 sh] 28))) (HCN : Hid (∀ w, Calls Try.prog 20 #[.int .u64 8] w fun e w' => e = .returned (.agg #[.int .u64 xv, .int .u64 xm, .int .u64 xlo, .int .u64 xhi, .int .i64 xsl, .int .i64 xsh]) ∧ But [] w w')) (HBR : Hid (∀ w, Calls Try.prog 12 #[.int .u8 64, .bool true, .agg #[.int .u64 v, .int .u64 m, .int .u64 lo, .int .u64 hi, .int .i64 sl, .int .i64 sh], .agg #[.int .u64 xv, .int .u64 xm, .int .u64 xlo, .int .u64 xhi, .int .i64 xsl, .int .i64 xsh], .bool false] w fun e w' => e = .returned (.tuple #[.agg #[.int .u64 cv, .int .u64 cm, .int .u64 cl, .int .u64 ch, .int .i64 ci, .int .i64 cj], .agg #[.int .u64 dv, .int .u64 dm, .int .u64 dl, .int .u64 dh, .int .i64 di, .int .i64 dj], .bool cb]) ∧ But [] w w')) {u0 u2 u3 u4 u5 u6 u7 u8 u9 u10 u11 u12 u13 u14 u15 u16 u17 u18 u19 u20 u21 u22 u23 u24 u25 u26 u27 u28 u29 u30 u31 u32 u33 u34 u35 u36 u37 u38 u39 u40 u41 u42 u43 u44 u45 u46 u47 u48 u49 u50 u51 u52 u53 u54 u55 u56 u57 u58 u59 u60 u61 u62 u63 u64 u65 u66 u67 u68 u69 u70 u71 u72 u73 u74 u75 u76 u77 u78 u79 u80 u81 u82 u83 u84 u85 u86 u87 u88 u89 u90 u91 u92 u93 u94 u95 u96 u97 u98 u99 u100 u101 u102 u103 u104 u105 u106 u107 u108 u109 u110 u111 u112 u113 u114 u115 u116 u117 u118 u119 u120 : Value} (hQ : ∀ (z50 z51 z52 z49 z53 z54 z55 : Value) (w6 : World) (k l : Nat), But [] wr w6 → wr.heap.size ≤ k → wr.heap.size ≤ l → k ≠ l → w6.heap[k]? = some (.cells #[.int .u64 cv, .int .u64 cm, .int .u64 cl, .int .u64 ch, .int .i64 ci, .int .i64 cj] 28) → w6.heap[l]? = some (.cells #[.int .u64 dv, .int .u64 dm, .int .u64 dl, .int .u64 dh, .int .i64 di, .int .i64 dj] 28) → Q .normal { tmps := List.toArray (u0 :: .pointer (some ⟨ba, 0, none⟩) :: u2 :: u3 :: u4 :: u5 :: u6 :: u7 :: u8 :: u9 :: u10 :: u11 :: u12 :: u13 :: .pointer (some ⟨k, 0, none⟩) :: .pointer (some ⟨l, 0, none⟩) :: .bool cb :: u17 :: u18 :: u19 :: u20 :: u21 :: u22 :: u23 :: u24 :: u25 :: u26 :: u27 :: u28 :: u29 :: u30 :: u31 :: u32 :: u33 :: u34 :: u35 :: u36 :: u37 :: u38 :: u39 :: u40 :: u41 :: u42 :: u43 :: u44 :: u45 :: u46 :: u47 :: u48 :: z49 :: z50 :: z51 :: z52 :: z53 :: z54 :: z55 :: u56 :: u57 :: u58 :: u59 :: u60 :: u61 :: u62 :: u63 :: u64 :: u65 :: u66 :: u67 :: u68 :: u69 :: u70 :: u71 :: u72 :: u73 :: u74 :: u75 :: u76 :: u77 :: u78 :: u79 :: u80 :: u81 :: u82 :: u83 :: u84 :: u85 :: u86 :: u87 :: u88 :: u89 :: u90 :: u91 :: u92 :: u93 :: u94 :: u95 :: u96 :: u97 :: u98 :: u99 :: u100 :: u101 :: u102 :: u103 :: u104 :: u105 :: u106 :: u107 :: u108 :: u109 :: u110 :: u111 :: u112 :: u113 :: u114 :: u115 :: u116 :: u117 :: u118 :: u119 :: u120 :: []), defers := [] } w6) :
    Code.wp Try.prog code_aw6 Q { tmps := List.toArray (u0 :: .pointer (some ⟨ba, 0, none⟩) :: u2 :: u3 :: u4 :: u5 :: u6 :: u7 :: u8 :: u9 :: u10 :: u11 :: u12 :: u13 :: u14 :: u15 :: u16 :: u17 :: u18 :: u19 :: u20 :: u21 :: u22 :: u23 :: u24 :: u25 :: u26 :: u27 :: u28 :: u29 :: u30 :: u31 :: u32 :: u33 :: u34 :: u35 :: u36 :: u37 :: u38 :: u39 :: u40 :: u41 :: u42 :: u43 :: u44 :: u45 :: u46 :: u47 :: u48 :: u49 :: u50 :: u51 :: u52 :: u53 :: u54 :: u55 :: u56 :: u57 :: u58 :: u59 :: u60 :: u61 :: u62 :: u63 :: u64 :: u65 :: u66 :: u67 :: u68 :: u69 :: u70 :: u71 :: u72 :: u73 :: u74 :: u75 :: u76 :: u77 :: u78 :: u79 :: u80 :: u81 :: u82 :: u83 :: u84 :: u85 :: u86 :: u87 :: u88 :: u89 :: u90 :: u91 :: u92 :: u93 :: u94 :: u95 :: u96 :: u97 :: u98 :: u99 :: u100 :: u101 :: u102 :: u103 :: u104 :: u105 :: u106 :: u107 :: u108 :: u109 :: u110 :: u111 :: u112 :: u113 :: u114 :: u115 :: u116 :: u117 :: u118 :: u119 :: u120 :: []), defers := [] } wr := by
  have HQ := Lib.hid hQ
  clear hQ
  conv => arg 2; whnf
  refine wp_region_pair 7 (by kernel_rfl) (by kernel_rfl) [.agg #[.int .u64 v, .int .u64 m, .int .u64 lo, .int .u64 hi, .int .i64 sl, .int .i64 sh], .agg #[.int .u64 xv, .int .u64 xm, .int .u64 xlo, .int .u64 xhi, .int .i64 xsl, .int .i64 xsh], .tuple #[.agg #[.int .u64 cv, .int .u64 cm, .int .u64 cl, .int .u64 ch, .int .i64 ci, .int .i64 cj], .agg #[.int .u64 dv, .int .u64 dm, .int .u64 dl, .int .u64 dh, .int .i64 di, .int .i64 dj], .bool cb], .tuple #[.agg #[.int .u64 cv, .int .u64 cm, .int .u64 cl, .int .u64 ch, .int .i64 ci, .int .i64 cj], .agg #[.int .u64 dv, .int .u64 dm, .int .u64 dl, .int .u64 dh, .int .i64 di, .int .i64 dj], .bool cb], .agg #[.int .u64 cv, .int .u64 cm, .int .u64 cl, .int .u64 ch, .int .i64 ci, .int .i64 cj], .agg #[.int .u64 dv, .int .u64 dm, .int .u64 dl, .int .u64 dh, .int .i64 di, .int .i64 dj], .bool cb] [[], [], [(0, 50), (1, 51)], [(2, 52)], [(3, 49)], [(3, 49)], [(3, 49)]] [[(1, .pointer (some ⟨ba, 0, none⟩))], [], [], [], [], [], []] (by kernel_rfl) (by kernel_rfl) (by kernel_rfl) ?_ ?_ [none, none, none, none, none, none, none, none, none, none, none, none, none, none, some 14, some 15, some 16, none, none, none, none, none, none, none, none, none, none, none, none, none, none, none, none, none, none, none, none, none, none, none, none, none, none, none, none, none, none, none, none, some 49, some 50, some 51, some 52, some 53, some 54, some 55, none, none, none, none, none, none, none, none, none, none, none, none, none, none, none, none, none, none, none, none, none, none, none, none, none, none, none, none, none, none, none, none, none, none, none, none, none, none, none, none, none, none, none, none, none, none, none, none, none, none, none, none, none, none, none, none, none, none, none, none, none, none, none, none, none] (by kernel_rfl) (by rfl) (jx := 4) (jy := 5) (jz := 6) (sx := 53) (sy := 54) (sz := 55) (A := 14) (B := 15) (c := 16) (zs := #[.int .u64 0, .int .u64 0, .int .u64 0, .int .u64 0, .int .i64 0, .int .i64 0]) (cx := #[.int .u64 cv, .int .u64 cm, .int .u64 cl, .int .u64 ch, .int .i64 ci, .int .i64 cj]) (cy := #[.int .u64 dv, .int .u64 dm, .int .u64 dl, .int .u64 dh, .int .i64 di, .int .i64 dj]) (t := 28) (vx := .agg #[.int .u64 cv, .int .u64 cm, .int .u64 cl, .int .u64 ch, .int .i64 ci, .int .i64 cj]) (vy := .agg #[.int .u64 dv, .int .u64 dm, .int .u64 dl, .int .u64 dh, .int .i64 di, .int .i64 dj]) (vz := .bool cb) rfl rfl rfl rfl rfl rfl rfl rfl rfl rfl (by kernel_rfl) (by kernel_rfl) (by kernel_rfl) rfl (by kernel_rfl) rfl (by kernel_rfl) rfl ?_ ?_ ?_ ?_ ?_ ?_
  · exact ⟨⟨rfl, trivial⟩, trivial, trivial, trivial, trivial, trivial, trivial, trivial⟩
  · simp only [List.take_succ_cons, List.take_zero]
    refine ⟨fun a9 w9 hR hk hf => ?_, ?_⟩
    · simp only [KnowF, FreeF, and_true] at hk hf
      have e1 : a9.tmps[1]?.getD undef = .pointer (some ⟨ba, 0, none⟩) := freeF_ev hf
      have hh := hR.heap HA.out (by simp)
      have f0 := cl_of hh 0
      have f1 := cl_of hh 1
      have f2 := cl_of hh 2
      have f3 := cl_of hh 3
      have f4 := cl_of hh 4
      have f5 := cl_of hh 5
      simp only [List.getElem?_toArray, List.getElem?_cons_zero, List.getElem?_cons_succ] at f0 f1 f2 f3 f4 f5
      clear hh
      exact flow_run (v := .agg #[.int .u64 v, .int .u64 m, .int .u64 lo, .int .u64 hi, .int .i64 sl, .int .i64 sh]) (by go_simp) (But.refl _ _) (GV.of rfl)
    refine ⟨fun a9 w9 hR hk hf => ?_, ?_⟩
    · simp only [KnowF, FreeF, and_true] at hk hf
      exact flow_call (f := 20) (args := #[.int .u64 8]) (by go_simp) ((HCN.out _).mono (by rintro e w' ⟨rfl, hb⟩; exact ⟨_, rfl, hb, GV.of rfl⟩))
    refine ⟨fun a9 w9 hR hk hf => ?_, ?_⟩
    · simp only [KnowF, FreeF, and_true] at hk hf
      have e50 := (hk.1).ev (v := .agg #[.int .u64 v, .int .u64 m, .int .u64 lo, .int .u64 hi, .int .i64 sl, .int .i64 sh]) rfl
      have e51 := (hk.2).ev (v := .agg #[.int .u64 xv, .int .u64 xm, .int .u64 xlo, .int .u64 xhi, .int .i64 xsl, .int .i64 xsh]) rfl
      exact flow_call (f := 12) (args := #[.int .u8 64, .bool true, .agg #[.int .u64 v, .int .u64 m, .int .u64 lo, .int .u64 hi, .int .i64 sl, .int .i64 sh], .agg #[.int .u64 xv, .int .u64 xm, .int .u64 xlo, .int .u64 xhi, .int .i64 xsl, .int .i64 xsh], .bool false]) (by go_simp) ((HBR.out _).mono (by rintro e w' ⟨rfl, hb⟩; exact ⟨_, rfl, hb, GV.of rfl⟩))
    refine ⟨fun a9 w9 hR hk hf => ?_, ?_⟩
    · simp only [KnowF, FreeF, and_true] at hk hf
      have e52 := (hk).ev (v := .tuple #[.agg #[.int .u64 cv, .int .u64 cm, .int .u64 cl, .int .u64 ch, .int .i64 ci, .int .i64 cj], .agg #[.int .u64 dv, .int .u64 dm, .int .u64 dl, .int .u64 dh, .int .i64 di, .int .i64 dj], .bool cb]) rfl
      exact flow_run (v := .tuple #[.agg #[.int .u64 cv, .int .u64 cm, .int .u64 cl, .int .u64 ch, .int .i64 ci, .int .i64 cj], .agg #[.int .u64 dv, .int .u64 dm, .int .u64 dl, .int .u64 dh, .int .i64 di, .int .i64 dj], .bool cb]) (by go_simp) (But.refl _ _) (GV.of rfl)
    refine ⟨fun a9 w9 hR hk hf => ?_, ?_⟩
    · simp only [KnowF, FreeF, and_true] at hk hf
      have e49 := (hk).ev (v := .tuple #[.agg #[.int .u64 cv, .int .u64 cm, .int .u64 cl, .int .u64 ch, .int .i64 ci, .int .i64 cj], .agg #[.int .u64 dv, .int .u64 dm, .int .u64 dl, .int .u64 dh, .int .i64 di, .int .i64 dj], .bool cb]) rfl
      exact flow_run (v := .agg #[.int .u64 cv, .int .u64 cm, .int .u64 cl, .int .u64 ch, .int .i64 ci, .int .i64 cj]) (by go_simp) (But.refl _ _) (GV.of rfl)
    refine ⟨fun a9 w9 hR hk hf => ?_, ?_⟩
    · simp only [KnowF, FreeF, and_true] at hk hf
      have e49 := (hk).ev (v := .tuple #[.agg #[.int .u64 cv, .int .u64 cm, .int .u64 cl, .int .u64 ch, .int .i64 ci, .int .i64 cj], .agg #[.int .u64 dv, .int .u64 dm, .int .u64 dl, .int .u64 dh, .int .i64 di, .int .i64 dj], .bool cb]) rfl
      exact flow_run (v := .agg #[.int .u64 dv, .int .u64 dm, .int .u64 dl, .int .u64 dh, .int .i64 di, .int .i64 dj]) (by go_simp) (But.refl _ _) (GV.of rfl)
    refine ⟨fun a9 w9 hR hk hf => ?_, ?_⟩
    · simp only [KnowF, FreeF, and_true] at hk hf
      have e49 := (hk).ev (v := .tuple #[.agg #[.int .u64 cv, .int .u64 cm, .int .u64 cl, .int .u64 ch, .int .i64 ci, .int .i64 cj], .agg #[.int .u64 dv, .int .u64 dm, .int .u64 dl, .int .u64 dh, .int .i64 di, .int .i64 dj], .bool cb]) rfl
      exact flow_run (v := .bool cb) (by go_simp) (But.refl _ _) (GV.of rfl)
    exact trivial
  · exact fun a w => pair_alloc (v := ptr0 w.heap.size) (by unfold ptr0; go_simp)
  · exact fun a w => pair_alloc (v := ptr0 w.heap.size) (by unfold ptr0; go_simp)
  · intro a w k e1 e2 h
    unfold ptr0 at e1
    have f0 := fz_of h 0
    have f1 := fz_of h 1
    have f2 := fz_of h 2
    have f3 := fz_of h 3
    have f4 := fz_of h 4
    have f5 := fz_of h 5
    have c0 := cl_of h 0
    have c1 := cl_of h 1
    have c2 := cl_of h 2
    have c3 := cl_of h 3
    have c4 := cl_of h 4
    have c5 := cl_of h 5
    simp only [List.getElem?_toArray, List.getElem?_cons_zero, List.getElem?_cons_succ] at c0 c1 c2 c3 c4 c5 f0 f1 f2 f3 f4 f5
    exact pair_store rfl (w' := ((((((w.setCell ⟨k, 0, none⟩ (.int .u64 cv)).setCell ⟨k, 1, none⟩ (.int .u64 cm)).setCell ⟨k, 2, none⟩ (.int .u64 cl)).setCell ⟨k, 3, none⟩ (.int .u64 ch)).setCell ⟨k, 4, none⟩ (.int .i64 ci)).setCell ⟨k, 5, none⟩ (.int .i64 cj))) (by go_simp) but6x (set6x h)
  · intro a w k e1 e2 h
    unfold ptr0 at e1
    have f0 := fz_of h 0
    have f1 := fz_of h 1
    have f2 := fz_of h 2
    have f3 := fz_of h 3
    have f4 := fz_of h 4
    have f5 := fz_of h 5
    have c0 := cl_of h 0
    have c1 := cl_of h 1
    have c2 := cl_of h 2
    have c3 := cl_of h 3
    have c4 := cl_of h 4
    have c5 := cl_of h 5
    simp only [List.getElem?_toArray, List.getElem?_cons_zero, List.getElem?_cons_succ] at c0 c1 c2 c3 c4 c5 f0 f1 f2 f3 f4 f5
    exact pair_store rfl (w' := ((((((w.setCell ⟨k, 0, none⟩ (.int .u64 dv)).setCell ⟨k, 1, none⟩ (.int .u64 dm)).setCell ⟨k, 2, none⟩ (.int .u64 dl)).setCell ⟨k, 3, none⟩ (.int .u64 dh)).setCell ⟨k, 4, none⟩ (.int .i64 di)).setCell ⟨k, 5, none⟩ (.int .i64 dj))) (by go_simp) but6x (set6x h)
  · intro a w e
    exact pair_alloc (v := .bool cb) (by go_simp)
  · intro f w kA kB hb eA eB ec h1 h2 h3 h4 h5
    show Q .normal { tmps := List.toArray (u0 :: .pointer (some ⟨ba, 0, none⟩) :: u2 :: u3 :: u4 :: u5 :: u6 :: u7 :: u8 :: u9 :: u10 :: u11 :: u12 :: u13 :: f 14 :: f 15 :: f 16 :: u17 :: u18 :: u19 :: u20 :: u21 :: u22 :: u23 :: u24 :: u25 :: u26 :: u27 :: u28 :: u29 :: u30 :: u31 :: u32 :: u33 :: u34 :: u35 :: u36 :: u37 :: u38 :: u39 :: u40 :: u41 :: u42 :: u43 :: u44 :: u45 :: u46 :: u47 :: u48 :: f 49 :: f 50 :: f 51 :: f 52 :: f 53 :: f 54 :: f 55 :: u56 :: u57 :: u58 :: u59 :: u60 :: u61 :: u62 :: u63 :: u64 :: u65 :: u66 :: u67 :: u68 :: u69 :: u70 :: u71 :: u72 :: u73 :: u74 :: u75 :: u76 :: u77 :: u78 :: u79 :: u80 :: u81 :: u82 :: u83 :: u84 :: u85 :: u86 :: u87 :: u88 :: u89 :: u90 :: u91 :: u92 :: u93 :: u94 :: u95 :: u96 :: u97 :: u98 :: u99 :: u100 :: u101 :: u102 :: u103 :: u104 :: u105 :: u106 :: u107 :: u108 :: u109 :: u110 :: u111 :: u112 :: u113 :: u114 :: u115 :: u116 :: u117 :: u118 :: u119 :: u120 :: []), defers := [] } w
    unfold ptr0 at eA eB
    rw [eA, eB, ec]
    exact HQ.out _ _ _ _ _ _ _ _ _ _ hb h1 h2 h3 h4 h5
noncomputable def code_aw7 : Code := ((Try.f8.body.getD .skip |> regionR 7).getD .skip)
set_option maxRecDepth 100000 in
set_option maxHeartbeats 8000000 in
theorem aw7 (Q : Exit → Act → World → Prop) {wr : World} {v m lo hi xv xm xlo xhi cv cm cl ch dv dm dl dh : Nat} {sl sh xsl xsh ci cj di dj : Int} {cb : Bool} {ba : Nat} (HA : Hid (wr.heap[ba]? = some (.cells #[.int .u64 v, .int .u64 m, .int .u64 lo, .int .u64 hi, .int .i64 sl, .int .i64 sh] 28))) (HCN : Hid (∀ w, Calls Try.prog 20 #[.int .u64 1] w fun e w' => e = .returned (.agg #[.int .u64 xv, .int .u64 xm, .int .u64 xlo, .int .u64 xhi, .int .i64 xsl, .int .i64 xsh]) ∧ But [] w w')) (HBR : Hid (∀ w, Calls Try.prog 12 #[.int .u8 16, .bool false, .agg #[.int .u64 v, .int .u64 m, .int .u64 lo, .int .u64 hi, .int .i64 sl, .int .i64 sh], .agg #[.int .u64 xv, .int .u64 xm, .int .u64 xlo, .int .u64 xhi, .int .i64 xsl, .int .i64 xsh], .bool true] w fun e w' => e = .returned (.tuple #[.agg #[.int .u64 cv, .int .u64 cm, .int .u64 cl, .int .u64 ch, .int .i64 ci, .int .i64 cj], .agg #[.int .u64 dv, .int .u64 dm, .int .u64 dl, .int .u64 dh, .int .i64 di, .int .i64 dj], .bool cb]) ∧ But [] w w')) {u0 u2 u3 u4 u5 u6 u7 u8 u9 u10 u11 u12 u13 u14 u15 u16 u17 u18 u19 u20 u21 u22 u23 u24 u25 u26 u27 u28 u29 u30 u31 u32 u33 u34 u35 u36 u37 u38 u39 u40 u41 u42 u43 u44 u45 u46 u47 u48 u49 u50 u51 u52 u53 u54 u55 u56 u57 u58 u59 u60 u61 u62 u63 u64 u65 u66 u67 u68 u69 u70 u71 u72 u73 u74 u75 u76 u77 u78 u79 u80 u81 u82 u83 u84 u85 u86 u87 u88 u89 u90 u91 u92 u93 u94 u95 u96 u97 u98 u99 u100 u101 u102 u103 u104 u105 u106 u107 u108 u109 u110 u111 u112 u113 u114 u115 u116 u117 u118 u119 u120 : Value} (hQ : ∀ (z57 z58 z59 z56 z60 z61 z62 : Value) (w6 : World) (k l : Nat), But [] wr w6 → wr.heap.size ≤ k → wr.heap.size ≤ l → k ≠ l → w6.heap[k]? = some (.cells #[.int .u64 cv, .int .u64 cm, .int .u64 cl, .int .u64 ch, .int .i64 ci, .int .i64 cj] 28) → w6.heap[l]? = some (.cells #[.int .u64 dv, .int .u64 dm, .int .u64 dl, .int .u64 dh, .int .i64 di, .int .i64 dj] 28) → Q .normal { tmps := List.toArray (u0 :: .pointer (some ⟨ba, 0, none⟩) :: u2 :: u3 :: u4 :: u5 :: u6 :: u7 :: u8 :: u9 :: u10 :: u11 :: u12 :: u13 :: u14 :: u15 :: u16 :: .pointer (some ⟨k, 0, none⟩) :: .pointer (some ⟨l, 0, none⟩) :: .bool cb :: u20 :: u21 :: u22 :: u23 :: u24 :: u25 :: u26 :: u27 :: u28 :: u29 :: u30 :: u31 :: u32 :: u33 :: u34 :: u35 :: u36 :: u37 :: u38 :: u39 :: u40 :: u41 :: u42 :: u43 :: u44 :: u45 :: u46 :: u47 :: u48 :: u49 :: u50 :: u51 :: u52 :: u53 :: u54 :: u55 :: z56 :: z57 :: z58 :: z59 :: z60 :: z61 :: z62 :: u63 :: u64 :: u65 :: u66 :: u67 :: u68 :: u69 :: u70 :: u71 :: u72 :: u73 :: u74 :: u75 :: u76 :: u77 :: u78 :: u79 :: u80 :: u81 :: u82 :: u83 :: u84 :: u85 :: u86 :: u87 :: u88 :: u89 :: u90 :: u91 :: u92 :: u93 :: u94 :: u95 :: u96 :: u97 :: u98 :: u99 :: u100 :: u101 :: u102 :: u103 :: u104 :: u105 :: u106 :: u107 :: u108 :: u109 :: u110 :: u111 :: u112 :: u113 :: u114 :: u115 :: u116 :: u117 :: u118 :: u119 :: u120 :: []), defers := [] } w6) :
    Code.wp Try.prog code_aw7 Q { tmps := List.toArray (u0 :: .pointer (some ⟨ba, 0, none⟩) :: u2 :: u3 :: u4 :: u5 :: u6 :: u7 :: u8 :: u9 :: u10 :: u11 :: u12 :: u13 :: u14 :: u15 :: u16 :: u17 :: u18 :: u19 :: u20 :: u21 :: u22 :: u23 :: u24 :: u25 :: u26 :: u27 :: u28 :: u29 :: u30 :: u31 :: u32 :: u33 :: u34 :: u35 :: u36 :: u37 :: u38 :: u39 :: u40 :: u41 :: u42 :: u43 :: u44 :: u45 :: u46 :: u47 :: u48 :: u49 :: u50 :: u51 :: u52 :: u53 :: u54 :: u55 :: u56 :: u57 :: u58 :: u59 :: u60 :: u61 :: u62 :: u63 :: u64 :: u65 :: u66 :: u67 :: u68 :: u69 :: u70 :: u71 :: u72 :: u73 :: u74 :: u75 :: u76 :: u77 :: u78 :: u79 :: u80 :: u81 :: u82 :: u83 :: u84 :: u85 :: u86 :: u87 :: u88 :: u89 :: u90 :: u91 :: u92 :: u93 :: u94 :: u95 :: u96 :: u97 :: u98 :: u99 :: u100 :: u101 :: u102 :: u103 :: u104 :: u105 :: u106 :: u107 :: u108 :: u109 :: u110 :: u111 :: u112 :: u113 :: u114 :: u115 :: u116 :: u117 :: u118 :: u119 :: u120 :: []), defers := [] } wr := by
  have HQ := Lib.hid hQ
  clear hQ
  conv => arg 2; whnf
  refine wp_region_pair 7 (by kernel_rfl) (by kernel_rfl) [.agg #[.int .u64 v, .int .u64 m, .int .u64 lo, .int .u64 hi, .int .i64 sl, .int .i64 sh], .agg #[.int .u64 xv, .int .u64 xm, .int .u64 xlo, .int .u64 xhi, .int .i64 xsl, .int .i64 xsh], .tuple #[.agg #[.int .u64 cv, .int .u64 cm, .int .u64 cl, .int .u64 ch, .int .i64 ci, .int .i64 cj], .agg #[.int .u64 dv, .int .u64 dm, .int .u64 dl, .int .u64 dh, .int .i64 di, .int .i64 dj], .bool cb], .tuple #[.agg #[.int .u64 cv, .int .u64 cm, .int .u64 cl, .int .u64 ch, .int .i64 ci, .int .i64 cj], .agg #[.int .u64 dv, .int .u64 dm, .int .u64 dl, .int .u64 dh, .int .i64 di, .int .i64 dj], .bool cb], .agg #[.int .u64 cv, .int .u64 cm, .int .u64 cl, .int .u64 ch, .int .i64 ci, .int .i64 cj], .agg #[.int .u64 dv, .int .u64 dm, .int .u64 dl, .int .u64 dh, .int .i64 di, .int .i64 dj], .bool cb] [[], [], [(0, 57), (1, 58)], [(2, 59)], [(3, 56)], [(3, 56)], [(3, 56)]] [[(1, .pointer (some ⟨ba, 0, none⟩))], [], [], [], [], [], []] (by kernel_rfl) (by kernel_rfl) (by kernel_rfl) ?_ ?_ [none, none, none, none, none, none, none, none, none, none, none, none, none, none, none, none, none, some 17, some 18, some 19, none, none, none, none, none, none, none, none, none, none, none, none, none, none, none, none, none, none, none, none, none, none, none, none, none, none, none, none, none, none, none, none, none, none, none, none, some 56, some 57, some 58, some 59, some 60, some 61, some 62, none, none, none, none, none, none, none, none, none, none, none, none, none, none, none, none, none, none, none, none, none, none, none, none, none, none, none, none, none, none, none, none, none, none, none, none, none, none, none, none, none, none, none, none, none, none, none, none, none, none, none, none, none, none, none, none, none, none] (by kernel_rfl) (by rfl) (jx := 4) (jy := 5) (jz := 6) (sx := 60) (sy := 61) (sz := 62) (A := 17) (B := 18) (c := 19) (zs := #[.int .u64 0, .int .u64 0, .int .u64 0, .int .u64 0, .int .i64 0, .int .i64 0]) (cx := #[.int .u64 cv, .int .u64 cm, .int .u64 cl, .int .u64 ch, .int .i64 ci, .int .i64 cj]) (cy := #[.int .u64 dv, .int .u64 dm, .int .u64 dl, .int .u64 dh, .int .i64 di, .int .i64 dj]) (t := 28) (vx := .agg #[.int .u64 cv, .int .u64 cm, .int .u64 cl, .int .u64 ch, .int .i64 ci, .int .i64 cj]) (vy := .agg #[.int .u64 dv, .int .u64 dm, .int .u64 dl, .int .u64 dh, .int .i64 di, .int .i64 dj]) (vz := .bool cb) rfl rfl rfl rfl rfl rfl rfl rfl rfl rfl (by kernel_rfl) (by kernel_rfl) (by kernel_rfl) rfl (by kernel_rfl) rfl (by kernel_rfl) rfl ?_ ?_ ?_ ?_ ?_ ?_
  · exact ⟨⟨rfl, trivial⟩, trivial, trivial, trivial, trivial, trivial, trivial, trivial⟩
  · simp only [List.take_succ_cons, List.take_zero]
    refine ⟨fun a9 w9 hR hk hf => ?_, ?_⟩
    · simp only [KnowF, FreeF, and_true] at hk hf
      have e1 : a9.tmps[1]?.getD undef = .pointer (some ⟨ba, 0, none⟩) := freeF_ev hf
      have hh := hR.heap HA.out (by simp)
      have f0 := cl_of hh 0
      have f1 := cl_of hh 1
      have f2 := cl_of hh 2
      have f3 := cl_of hh 3
      have f4 := cl_of hh 4
      have f5 := cl_of hh 5
      simp only [List.getElem?_toArray, List.getElem?_cons_zero, List.getElem?_cons_succ] at f0 f1 f2 f3 f4 f5
      clear hh
      exact flow_run (v := .agg #[.int .u64 v, .int .u64 m, .int .u64 lo, .int .u64 hi, .int .i64 sl, .int .i64 sh]) (by go_simp) (But.refl _ _) (GV.of rfl)
    refine ⟨fun a9 w9 hR hk hf => ?_, ?_⟩
    · simp only [KnowF, FreeF, and_true] at hk hf
      exact flow_call (f := 20) (args := #[.int .u64 1]) (by go_simp) ((HCN.out _).mono (by rintro e w' ⟨rfl, hb⟩; exact ⟨_, rfl, hb, GV.of rfl⟩))
    refine ⟨fun a9 w9 hR hk hf => ?_, ?_⟩
    · simp only [KnowF, FreeF, and_true] at hk hf
      have e57 := (hk.1).ev (v := .agg #[.int .u64 v, .int .u64 m, .int .u64 lo, .int .u64 hi, .int .i64 sl, .int .i64 sh]) rfl
      have e58 := (hk.2).ev (v := .agg #[.int .u64 xv, .int .u64 xm, .int .u64 xlo, .int .u64 xhi, .int .i64 xsl, .int .i64 xsh]) rfl
      exact flow_call (f := 12) (args := #[.int .u8 16, .bool false, .agg #[.int .u64 v, .int .u64 m, .int .u64 lo, .int .u64 hi, .int .i64 sl, .int .i64 sh], .agg #[.int .u64 xv, .int .u64 xm, .int .u64 xlo, .int .u64 xhi, .int .i64 xsl, .int .i64 xsh], .bool true]) (by go_simp) ((HBR.out _).mono (by rintro e w' ⟨rfl, hb⟩; exact ⟨_, rfl, hb, GV.of rfl⟩))
    refine ⟨fun a9 w9 hR hk hf => ?_, ?_⟩
    · simp only [KnowF, FreeF, and_true] at hk hf
      have e59 := (hk).ev (v := .tuple #[.agg #[.int .u64 cv, .int .u64 cm, .int .u64 cl, .int .u64 ch, .int .i64 ci, .int .i64 cj], .agg #[.int .u64 dv, .int .u64 dm, .int .u64 dl, .int .u64 dh, .int .i64 di, .int .i64 dj], .bool cb]) rfl
      exact flow_run (v := .tuple #[.agg #[.int .u64 cv, .int .u64 cm, .int .u64 cl, .int .u64 ch, .int .i64 ci, .int .i64 cj], .agg #[.int .u64 dv, .int .u64 dm, .int .u64 dl, .int .u64 dh, .int .i64 di, .int .i64 dj], .bool cb]) (by go_simp) (But.refl _ _) (GV.of rfl)
    refine ⟨fun a9 w9 hR hk hf => ?_, ?_⟩
    · simp only [KnowF, FreeF, and_true] at hk hf
      have e56 := (hk).ev (v := .tuple #[.agg #[.int .u64 cv, .int .u64 cm, .int .u64 cl, .int .u64 ch, .int .i64 ci, .int .i64 cj], .agg #[.int .u64 dv, .int .u64 dm, .int .u64 dl, .int .u64 dh, .int .i64 di, .int .i64 dj], .bool cb]) rfl
      exact flow_run (v := .agg #[.int .u64 cv, .int .u64 cm, .int .u64 cl, .int .u64 ch, .int .i64 ci, .int .i64 cj]) (by go_simp) (But.refl _ _) (GV.of rfl)
    refine ⟨fun a9 w9 hR hk hf => ?_, ?_⟩
    · simp only [KnowF, FreeF, and_true] at hk hf
      have e56 := (hk).ev (v := .tuple #[.agg #[.int .u64 cv, .int .u64 cm, .int .u64 cl, .int .u64 ch, .int .i64 ci, .int .i64 cj], .agg #[.int .u64 dv, .int .u64 dm, .int .u64 dl, .int .u64 dh, .int .i64 di, .int .i64 dj], .bool cb]) rfl
      exact flow_run (v := .agg #[.int .u64 dv, .int .u64 dm, .int .u64 dl, .int .u64 dh, .int .i64 di, .int .i64 dj]) (by go_simp) (But.refl _ _) (GV.of rfl)
    refine ⟨fun a9 w9 hR hk hf => ?_, ?_⟩
    · simp only [KnowF, FreeF, and_true] at hk hf
      have e56 := (hk).ev (v := .tuple #[.agg #[.int .u64 cv, .int .u64 cm, .int .u64 cl, .int .u64 ch, .int .i64 ci, .int .i64 cj], .agg #[.int .u64 dv, .int .u64 dm, .int .u64 dl, .int .u64 dh, .int .i64 di, .int .i64 dj], .bool cb]) rfl
      exact flow_run (v := .bool cb) (by go_simp) (But.refl _ _) (GV.of rfl)
    exact trivial
  · exact fun a w => pair_alloc (v := ptr0 w.heap.size) (by unfold ptr0; go_simp)
  · exact fun a w => pair_alloc (v := ptr0 w.heap.size) (by unfold ptr0; go_simp)
  · intro a w k e1 e2 h
    unfold ptr0 at e1
    have f0 := fz_of h 0
    have f1 := fz_of h 1
    have f2 := fz_of h 2
    have f3 := fz_of h 3
    have f4 := fz_of h 4
    have f5 := fz_of h 5
    have c0 := cl_of h 0
    have c1 := cl_of h 1
    have c2 := cl_of h 2
    have c3 := cl_of h 3
    have c4 := cl_of h 4
    have c5 := cl_of h 5
    simp only [List.getElem?_toArray, List.getElem?_cons_zero, List.getElem?_cons_succ] at c0 c1 c2 c3 c4 c5 f0 f1 f2 f3 f4 f5
    exact pair_store rfl (w' := ((((((w.setCell ⟨k, 0, none⟩ (.int .u64 cv)).setCell ⟨k, 1, none⟩ (.int .u64 cm)).setCell ⟨k, 2, none⟩ (.int .u64 cl)).setCell ⟨k, 3, none⟩ (.int .u64 ch)).setCell ⟨k, 4, none⟩ (.int .i64 ci)).setCell ⟨k, 5, none⟩ (.int .i64 cj))) (by go_simp) but6x (set6x h)
  · intro a w k e1 e2 h
    unfold ptr0 at e1
    have f0 := fz_of h 0
    have f1 := fz_of h 1
    have f2 := fz_of h 2
    have f3 := fz_of h 3
    have f4 := fz_of h 4
    have f5 := fz_of h 5
    have c0 := cl_of h 0
    have c1 := cl_of h 1
    have c2 := cl_of h 2
    have c3 := cl_of h 3
    have c4 := cl_of h 4
    have c5 := cl_of h 5
    simp only [List.getElem?_toArray, List.getElem?_cons_zero, List.getElem?_cons_succ] at c0 c1 c2 c3 c4 c5 f0 f1 f2 f3 f4 f5
    exact pair_store rfl (w' := ((((((w.setCell ⟨k, 0, none⟩ (.int .u64 dv)).setCell ⟨k, 1, none⟩ (.int .u64 dm)).setCell ⟨k, 2, none⟩ (.int .u64 dl)).setCell ⟨k, 3, none⟩ (.int .u64 dh)).setCell ⟨k, 4, none⟩ (.int .i64 di)).setCell ⟨k, 5, none⟩ (.int .i64 dj))) (by go_simp) but6x (set6x h)
  · intro a w e
    exact pair_alloc (v := .bool cb) (by go_simp)
  · intro f w kA kB hb eA eB ec h1 h2 h3 h4 h5
    show Q .normal { tmps := List.toArray (u0 :: .pointer (some ⟨ba, 0, none⟩) :: u2 :: u3 :: u4 :: u5 :: u6 :: u7 :: u8 :: u9 :: u10 :: u11 :: u12 :: u13 :: u14 :: u15 :: u16 :: f 17 :: f 18 :: f 19 :: u20 :: u21 :: u22 :: u23 :: u24 :: u25 :: u26 :: u27 :: u28 :: u29 :: u30 :: u31 :: u32 :: u33 :: u34 :: u35 :: u36 :: u37 :: u38 :: u39 :: u40 :: u41 :: u42 :: u43 :: u44 :: u45 :: u46 :: u47 :: u48 :: u49 :: u50 :: u51 :: u52 :: u53 :: u54 :: u55 :: f 56 :: f 57 :: f 58 :: f 59 :: f 60 :: f 61 :: f 62 :: u63 :: u64 :: u65 :: u66 :: u67 :: u68 :: u69 :: u70 :: u71 :: u72 :: u73 :: u74 :: u75 :: u76 :: u77 :: u78 :: u79 :: u80 :: u81 :: u82 :: u83 :: u84 :: u85 :: u86 :: u87 :: u88 :: u89 :: u90 :: u91 :: u92 :: u93 :: u94 :: u95 :: u96 :: u97 :: u98 :: u99 :: u100 :: u101 :: u102 :: u103 :: u104 :: u105 :: u106 :: u107 :: u108 :: u109 :: u110 :: u111 :: u112 :: u113 :: u114 :: u115 :: u116 :: u117 :: u118 :: u119 :: u120 :: []), defers := [] } w
    unfold ptr0 at eA eB
    rw [eA, eB, ec]
    exact HQ.out _ _ _ _ _ _ _ _ _ _ hb h1 h2 h3 h4 h5
end Go.Proofs.Ytmbmmcippglfoaa.M
