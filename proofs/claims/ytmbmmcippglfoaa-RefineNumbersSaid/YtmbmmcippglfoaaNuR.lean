/-
  RefineNumbers: its drawn statements.
-/
import Derived.Test.YtmbmmcippglfoaaAwR
import Derived.Test.YtmbmmcippglfoaaFlowO
import Derived.Test.YtmbmmcippglfoaaRowS
namespace Go.Proofs.Ytmbmmcippglfoaa.M
open Go.RowKit Go.Shelf
set_option linter.unusedVariables false
set_option linter.unusedSectionVars false
set_option linter.unusedSimpArgs false

noncomputable def code_nu10 : Code := ((Try.f4.body.getD .skip |> regionR 10).getD .skip)
set_option maxRecDepth 100000 in
set_option maxHeartbeats 8000000 in
theorem nu10 (Q : Exit → Act → World → Prop) {wr : World} {NB i k ni nk : Nat} {cv cm cl ch : Nat} {ci cj : Int} {cb : Bool} (HI0 : Hid ((0 : Int) ≤ (i : Int))) (HI1 : Hid ((i : Int) < 10)) (HK0 : Hid ((0 : Int) ≤ (k : Int))) (HK1 : Hid ((k : Int) < 10)) (HNI : Hid (wr.cell? ⟨NB, i, none⟩ = some (.int .u64 (ni : Int)))) (HNK : Hid (wr.cell? ⟨NB, k, none⟩ = some (.int .u64 (nk : Int)))) (HOF : Hid (∀ w, Calls Try.prog 10 #[.agg #[.int .u64 0, .int .u64 18446744073709551615], .agg #[.int .u64 (ni : Int), .int .u64 (nk : Int), .int .i64 (-9223372036854775808), .int .i64 9223372036854775807]] w fun e w' => e = .returned (.tuple #[.agg #[.int .u64 cv, .int .u64 cm, .int .u64 cl, .int .u64 ch, .int .i64 ci, .int .i64 cj], .bool cb]) ∧ But [] w w')) {u0 u1 u5 u6 u7 u8 u9 u10 u11 u12 u13 u14 u15 u16 u17 u18 u19 u20 u21 u22 u23 u24 u25 u26 u27 u28 u29 u30 u31 u32 u33 u34 u35 u36 u37 u38 u39 u40 u41 u42 u43 u44 u45 u46 u47 u48 u49 u50 u51 u52 u53 u54 u55 u56 u57 u58 u59 u60 u61 u62 u63 u64 u65 u66 u67 u68 u69 u70 u71 u72 u73 u74 u75 u76 u77 u78 u79 u80 u81 u82 u83 u84 u85 u86 u87 u88 u89 u90 u91 u92 u93 u94 u95 u96 u97 u98 u99 u100 u101 u102 u103 u104 u105 u106 u107 u108 u109 u110 u111 u112 u113 u114 u115 u116 u117 u118 u119 u120 u121 u122 u123 u124 u125 u126 u127 u128 u129 u130 u131 u132 u133 u134 u135 u136 u137 u138 u139 u140 u141 u142 u143 u144 u145 u146 u147 u148 u149 u150 u151 u152 u153 u154 u155 u156 u157 u158 u159 u160 u161 u162 u163 u164 u165 u166 u167 u168 u169 u170 u171 u172 u173 u174 u175 u176 u177 u178 u179 u180 u181 u182 u183 u184 u185 u186 u187 u188 u189 u190 u191 u192 u193 u194 u195 u196 u197 : Value} (hQ : ∀ (z39 z40 z41 z42 z43 z44 z45 z46 z47 z48 z49 z38 z50 z51 : Value) (w6 : World) (kk : Nat), But [] wr w6 → wr.heap.size ≤ kk → w6.heap[kk]? = some (.cells #[.int .u64 cv, .int .u64 cm, .int .u64 cl, .int .u64 ch, .int .i64 ci, .int .i64 cj] 28) → Q .normal { tmps := List.toArray (u0::u1::.slice (some ⟨NB, 0, none⟩) 10 10::.int .i64 (i : Int)::.int .i64 (k : Int)::.pointer (some ⟨kk, 0, none⟩)::.bool cb::u7::u8::u9::u10::u11::u12::u13::u14::u15::u16::u17::u18::u19::u20::u21::u22::u23::u24::u25::u26::u27::u28::u29::u30::u31::u32::u33::u34::u35::u36::u37::z38::z39::z40::z41::z42::z43::z44::z45::z46::z47::z48::z49::z50::z51::u52::u53::u54::u55::u56::u57::u58::u59::u60::u61::u62::u63::u64::u65::u66::u67::u68::u69::u70::u71::u72::u73::u74::u75::u76::u77::u78::u79::u80::u81::u82::u83::u84::u85::u86::u87::u88::u89::u90::u91::u92::u93::u94::u95::u96::u97::u98::u99::u100::u101::u102::u103::u104::u105::u106::u107::u108::u109::u110::u111::u112::u113::u114::u115::u116::u117::u118::u119::u120::u121::u122::u123::u124::u125::u126::u127::u128::u129::u130::u131::u132::u133::u134::u135::u136::u137::u138::u139::u140::u141::u142::u143::u144::u145::u146::u147::u148::u149::u150::u151::u152::u153::u154::u155::u156::u157::u158::u159::u160::u161::u162::u163::u164::u165::u166::u167::u168::u169::u170::u171::u172::u173::u174::u175::u176::u177::u178::u179::u180::u181::u182::u183::u184::u185::u186::u187::u188::u189::u190::u191::u192::u193::u194::u195::u196::u197::[]), defers := [] } w6) :
    Code.wp Try.prog code_nu10 Q { tmps := List.toArray (u0::u1::.slice (some ⟨NB, 0, none⟩) 10 10::.int .i64 (i : Int)::.int .i64 (k : Int)::u5::u6::u7::u8::u9::u10::u11::u12::u13::u14::u15::u16::u17::u18::u19::u20::u21::u22::u23::u24::u25::u26::u27::u28::u29::u30::u31::u32::u33::u34::u35::u36::u37::u38::u39::u40::u41::u42::u43::u44::u45::u46::u47::u48::u49::u50::u51::u52::u53::u54::u55::u56::u57::u58::u59::u60::u61::u62::u63::u64::u65::u66::u67::u68::u69::u70::u71::u72::u73::u74::u75::u76::u77::u78::u79::u80::u81::u82::u83::u84::u85::u86::u87::u88::u89::u90::u91::u92::u93::u94::u95::u96::u97::u98::u99::u100::u101::u102::u103::u104::u105::u106::u107::u108::u109::u110::u111::u112::u113::u114::u115::u116::u117::u118::u119::u120::u121::u122::u123::u124::u125::u126::u127::u128::u129::u130::u131::u132::u133::u134::u135::u136::u137::u138::u139::u140::u141::u142::u143::u144::u145::u146::u147::u148::u149::u150::u151::u152::u153::u154::u155::u156::u157::u158::u159::u160::u161::u162::u163::u164::u165::u166::u167::u168::u169::u170::u171::u172::u173::u174::u175::u176::u177::u178::u179::u180::u181::u182::u183::u184::u185::u186::u187::u188::u189::u190::u191::u192::u193::u194::u195::u196::u197::[]), defers := [] } wr := by
  have HQ := Lib.hid hQ
  clear hQ
  conv => arg 2; whnf
  refine wp_region_one 14 (by kernel_rfl) (by kernel_rfl) [.agg #[.int .u64 0, .int .u64 18446744073709551615], .slice (some ⟨NB, 0, none⟩) 10 10, .int .i64 (i : Int), .pointer (some ⟨NB, i, none⟩), .int .u64 (ni : Int), .slice (some ⟨NB, 0, none⟩) 10 10, .int .i64 (k : Int), .pointer (some ⟨NB, k, none⟩), .int .u64 (nk : Int), .agg #[.int .u64 (ni : Int), .int .u64 (nk : Int), .int .i64 (-9223372036854775808), .int .i64 9223372036854775807], .tuple #[.agg #[.int .u64 cv, .int .u64 cm, .int .u64 cl, .int .u64 ch, .int .i64 ci, .int .i64 cj], .bool cb], .tuple #[.agg #[.int .u64 cv, .int .u64 cm, .int .u64 cl, .int .u64 ch, .int .i64 ci, .int .i64 cj], .bool cb], .agg #[.int .u64 cv, .int .u64 cm, .int .u64 cl, .int .u64 ch, .int .i64 ci, .int .i64 cj], .bool cb] [[], [], [], [(1, 40), (2, 41)], [(3, 42)], [], [], [(5, 44), (6, 45)], [(7, 46)], [(4, 43), (8, 47)], [(0, 39), (9, 48)], [(10, 49)], [(11, 38)], [(11, 38)]] [[], [(2, .slice (some ⟨NB, 0, none⟩) 10 10)], [(3, .int .i64 (i : Int))], [], [], [(2, .slice (some ⟨NB, 0, none⟩) 10 10)], [(4, .int .i64 (k : Int))], [], [], [], [], [], [], []] (by kernel_rfl) (by kernel_rfl) (by kernel_rfl) ?_ ?_ [none, none, none, none, none, some 5, some 6, none, none, none, none, none, none, none, none, none, none, none, none, none, none, none, none, none, none, none, none, none, none, none, none, none, none, none, none, none, none, none, some 38, some 39, some 40, some 41, some 42, some 43, some 44, some 45, some 46, some 47, some 48, some 49, some 50, some 51, none, none, none, none, none, none, none, none, none, none, none, none, none, none, none, none, none, none, none, none, none, none, none, none, none, none, none, none, none, none, none, none, none, none, none, none, none, none, none, none, none, none, none, none, none, none, none, none, none, none, none, none, none, none, none, none, none, none, none, none, none, none, none, none, none, none, none, none, none, none, none, none, none, none, none, none, none, none, none, none, none, none, none, none, none, none, none, none, none, none, none, none, none, none, none, none, none, none, none, none, none, none, none, none, none, none, none, none, none, none, none, none, none, none, none, none, none, none, none, none, none, none, none, none, none, none, none, none, none, none, none, none, none, none, none, none, none, none, none, none, none, none, none, none, none, none] (by kernel_rfl) (by rfl) (jx := 12) (jz := 13) (sx := 50) (sz := 51) (A := 5) (c := 6) (zs := #[.int .u64 0, .int .u64 0, .int .u64 0, .int .u64 0, .int .i64 0, .int .i64 0]) (cx := #[.int .u64 cv, .int .u64 cm, .int .u64 cl, .int .u64 ch, .int .i64 ci, .int .i64 cj]) (t := 28) (vx := .agg #[.int .u64 cv, .int .u64 cm, .int .u64 cl, .int .u64 ch, .int .i64 ci, .int .i64 cj]) (vz := .bool cb) rfl rfl rfl rfl rfl rfl (by kernel_rfl) (by kernel_rfl) rfl (by kernel_rfl) rfl ?_ ?_ ?_ ?_
  · exact ⟨trivial, ⟨rfl, trivial⟩, ⟨rfl, trivial⟩, trivial, trivial, ⟨rfl, trivial⟩, ⟨rfl, trivial⟩, trivial, trivial, trivial, trivial, trivial, trivial, trivial, trivial⟩
  · simp only [List.take_succ_cons, List.take_zero]
    refine ⟨fun a9 w9 hR hk hf => ?_, ?_⟩
    · simp only [KnowF, FreeF, and_true] at hk hf
      exact flow_run (by go_simp) (But.refl _ _) (GV.of rfl)
    refine ⟨fun a9 w9 hR hk hf => ?_, ?_⟩
    · simp only [KnowF, FreeF, and_true] at hk hf
      have e2 : a9.tmps[2]?.getD undef = .slice (some ⟨NB, 0, none⟩) 10 10 := freeF_ev hf
      exact flow_run (by go_simp) (But.refl _ _) (GV.of rfl)
    refine ⟨fun a9 w9 hR hk hf => ?_, ?_⟩
    · simp only [KnowF, FreeF, and_true] at hk hf
      have e3 : a9.tmps[3]?.getD undef = .int .i64 (i : Int) := freeF_ev hf
      exact flow_run (by go_simp) (But.refl _ _) (GV.of rfl)
    refine ⟨fun a9 w9 hR hk hf => ?_, ?_⟩
    · simp only [KnowF, FreeF, and_true] at hk hf
      have e40 := (hk.1).ev rfl
      have e41 := (hk.2).ev rfl
      have g0 := HI0.out
      have g1 := HI1.out
      exact flow_run (by go_simp) (But.refl _ _) (GV.of rfl)
    refine ⟨fun a9 w9 hR hk hf => ?_, ?_⟩
    · simp only [KnowF, FreeF, and_true] at hk hf
      have e42 := (hk).ev rfl
      have f0 := cell_but hR HNI.out (by simp)
      exact flow_run (by go_simp) (But.refl _ _) (GV.of rfl)
    refine ⟨fun a9 w9 hR hk hf => ?_, ?_⟩
    · simp only [KnowF, FreeF, and_true] at hk hf
      have e2 : a9.tmps[2]?.getD undef = .slice (some ⟨NB, 0, none⟩) 10 10 := freeF_ev hf
      exact flow_run (by go_simp) (But.refl _ _) (GV.of rfl)
    refine ⟨fun a9 w9 hR hk hf => ?_, ?_⟩
    · simp only [KnowF, FreeF, and_true] at hk hf
      have e4 : a9.tmps[4]?.getD undef = .int .i64 (k : Int) := freeF_ev hf
      exact flow_run (by go_simp) (But.refl _ _) (GV.of rfl)
    refine ⟨fun a9 w9 hR hk hf => ?_, ?_⟩
    · simp only [KnowF, FreeF, and_true] at hk hf
      have e44 := (hk.1).ev rfl
      have e45 := (hk.2).ev rfl
      have g0 := HK0.out
      have g1 := HK1.out
      exact flow_run (by go_simp) (But.refl _ _) (GV.of rfl)
    refine ⟨fun a9 w9 hR hk hf => ?_, ?_⟩
    · simp only [KnowF, FreeF, and_true] at hk hf
      have e46 := (hk).ev rfl
      have f0 := cell_but hR HNK.out (by simp)
      exact flow_run (by go_simp) (But.refl _ _) (GV.of rfl)
    refine ⟨fun a9 w9 hR hk hf => ?_, ?_⟩
    · simp only [KnowF, FreeF, and_true] at hk hf
      have e43 := (hk.1).ev rfl
      have e47 := (hk.2).ev rfl
      exact flow_run (by go_simp) (But.refl _ _) (GV.of rfl)
    refine ⟨fun a9 w9 hR hk hf => ?_, ?_⟩
    · simp only [KnowF, FreeF, and_true] at hk hf
      have e39 := (hk.1).ev rfl
      have e48 := (hk.2).ev rfl
      exact flow_call (f := 10) (args := #[.agg #[.int .u64 0, .int .u64 18446744073709551615], .agg #[.int .u64 (ni : Int), .int .u64 (nk : Int), .int .i64 (-9223372036854775808), .int .i64 9223372036854775807]]) (by go_simp) ((HOF.out _).mono (by rintro e w' ⟨rfl, hb⟩; exact ⟨_, rfl, hb, GV.of rfl⟩))
    refine ⟨fun a9 w9 hR hk hf => ?_, ?_⟩
    · simp only [KnowF, FreeF, and_true] at hk hf
      have e49 := (hk).ev rfl
      exact flow_run (by go_simp) (But.refl _ _) (GV.of rfl)
    refine ⟨fun a9 w9 hR hk hf => ?_, ?_⟩
    · simp only [KnowF, FreeF, and_true] at hk hf
      have e38 := (hk).ev rfl
      exact flow_run (by go_simp) (But.refl _ _) (GV.of rfl)
    refine ⟨fun a9 w9 hR hk hf => ?_, ?_⟩
    · simp only [KnowF, FreeF, and_true] at hk hf
      have e38 := (hk).ev rfl
      exact flow_run (by go_simp) (But.refl _ _) (GV.of rfl)
    exact trivial
  · exact fun a w => pair_alloc (v := ptr0 w.heap.size) (by unfold ptr0; go_simp)
  · intro a w k e1 e2 h
    unfold ptr0 at e1
    have f0 := fz_of h 0
    have f1 := fz_of h 1
    have f2 := fz_of h 2
    have f3 := fz_of h 3
    have f4 := fz_of h 4
    have f5 := fz_of h 5
    have c0 := cl_of h 0
    have c1 := cl_of h 1
    have c2 := cl_of h 2
    have c3 := cl_of h 3
    have c4 := cl_of h 4
    have c5 := cl_of h 5
    simp only [List.getElem?_toArray, List.getElem?_cons_zero, List.getElem?_cons_succ] at c0 c1 c2 c3 c4 c5 f0 f1 f2 f3 f4 f5
    exact pair_store rfl (w' := ((((((w.setCell ⟨k, 0, none⟩ (.int .u64 cv)).setCell ⟨k, 1, none⟩ (.int .u64 cm)).setCell ⟨k, 2, none⟩ (.int .u64 cl)).setCell ⟨k, 3, none⟩ (.int .u64 ch)).setCell ⟨k, 4, none⟩ (.int .i64 ci)).setCell ⟨k, 5, none⟩ (.int .i64 cj))) (by go_simp) but6x (set6x h)
  · intro a w e
    exact pair_alloc (v := .bool cb) (by go_simp)
  · intro f w kA hb eA ec h1 h4
    show Q .normal { tmps := List.toArray (u0::u1::.slice (some ⟨NB, 0, none⟩) 10 10::.int .i64 (i : Int)::.int .i64 (k : Int)::f 5::f 6::u7::u8::u9::u10::u11::u12::u13::u14::u15::u16::u17::u18::u19::u20::u21::u22::u23::u24::u25::u26::u27::u28::u29::u30::u31::u32::u33::u34::u35::u36::u37::f 38::f 39::f 40::f 41::f 42::f 43::f 44::f 45::f 46::f 47::f 48::f 49::f 50::f 51::u52::u53::u54::u55::u56::u57::u58::u59::u60::u61::u62::u63::u64::u65::u66::u67::u68::u69::u70::u71::u72::u73::u74::u75::u76::u77::u78::u79::u80::u81::u82::u83::u84::u85::u86::u87::u88::u89::u90::u91::u92::u93::u94::u95::u96::u97::u98::u99::u100::u101::u102::u103::u104::u105::u106::u107::u108::u109::u110::u111::u112::u113::u114::u115::u116::u117::u118::u119::u120::u121::u122::u123::u124::u125::u126::u127::u128::u129::u130::u131::u132::u133::u134::u135::u136::u137::u138::u139::u140::u141::u142::u143::u144::u145::u146::u147::u148::u149::u150::u151::u152::u153::u154::u155::u156::u157::u158::u159::u160::u161::u162::u163::u164::u165::u166::u167::u168::u169::u170::u171::u172::u173::u174::u175::u176::u177::u178::u179::u180::u181::u182::u183::u184::u185::u186::u187::u188::u189::u190::u191::u192::u193::u194::u195::u196::u197::[]), defers := [] } w
    unfold ptr0 at eA
    rw [eA, ec]
    exact HQ.out _ _ _ _ _ _ _ _ _ _ _ _ _ _ _ _ hb h1 h4
noncomputable def code_nu11 : Code := ((Try.f4.body.getD .skip |> regionR 11).getD .skip)
set_option maxRecDepth 100000 in
set_option maxHeartbeats 8000000 in
theorem nu11 (Q : Exit → Act → World → Prop) {wr : World} {un bn : Nat} {NB i k ni nk : Nat} {cv cm cl ch : Nat} {ci cj : Int} {cb : Bool} (HI0 : Hid ((0 : Int) ≤ (i : Int))) (HI1 : Hid ((i : Int) < 10)) (HK0 : Hid ((0 : Int) ≤ (k : Int))) (HK1 : Hid ((k : Int) < 10)) (HNI : Hid (wr.cell? ⟨NB, i, none⟩ = some (.int .u64 (ni : Int)))) (HNK : Hid (wr.cell? ⟨NB, k, none⟩ = some (.int .u64 (nk : Int)))) (HX1 : Hid (bits .xor .u64 IntKind.u64.max (ni : Int) = (un : Int))) (HX2 : Hid (bits .and .u64 (un : Int) (nk : Int) = (bn : Int))) (HX3 : Hid (uand un nk = bn)) (HOF : Hid (∀ w, Calls Try.prog 10 #[.agg #[.int .u64 (ni : Int), .int .u64 (bn : Int)], .agg #[.int .u64 0, .int .u64 18446744073709551615, .int .i64 (-9223372036854775808), .int .i64 9223372036854775807]] w fun e w' => e = .returned (.tuple #[.agg #[.int .u64 cv, .int .u64 cm, .int .u64 cl, .int .u64 ch, .int .i64 ci, .int .i64 cj], .bool cb]) ∧ But [] w w')) {u0 u1 u5 u6 u7 u8 u9 u10 u11 u12 u13 u14 u15 u16 u17 u18 u19 u20 u21 u22 u23 u24 u25 u26 u27 u28 u29 u30 u31 u32 u33 u34 u35 u36 u37 u38 u39 u40 u41 u42 u43 u44 u45 u46 u47 u48 u49 u50 u51 u52 u53 u54 u55 u56 u57 u58 u59 u60 u61 u62 u63 u64 u65 u66 u67 u68 u69 u70 u71 u72 u73 u74 u75 u76 u77 u78 u79 u80 u81 u82 u83 u84 u85 u86 u87 u88 u89 u90 u91 u92 u93 u94 u95 u96 u97 u98 u99 u100 u101 u102 u103 u104 u105 u106 u107 u108 u109 u110 u111 u112 u113 u114 u115 u116 u117 u118 u119 u120 u121 u122 u123 u124 u125 u126 u127 u128 u129 u130 u131 u132 u133 u134 u135 u136 u137 u138 u139 u140 u141 u142 u143 u144 u145 u146 u147 u148 u149 u150 u151 u152 u153 u154 u155 u156 u157 u158 u159 u160 u161 u162 u163 u164 u165 u166 u167 u168 u169 u170 u171 u172 u173 u174 u175 u176 u177 u178 u179 u180 u181 u182 u183 u184 u185 u186 u187 u188 u189 u190 u191 u192 u193 u194 u195 u196 u197 : Value} (hQ : ∀ (z53 z54 z55 z56 z57 z58 z59 z60 z61 z62 z63 z64 z65 z66 z67 z68 z69 z52 z70 z71 : Value) (w6 : World) (kk : Nat), But [] wr w6 → wr.heap.size ≤ kk → w6.heap[kk]? = some (.cells #[.int .u64 cv, .int .u64 cm, .int .u64 cl, .int .u64 ch, .int .i64 ci, .int .i64 cj] 28) → Q .normal { tmps := List.toArray (u0::u1::.slice (some ⟨NB, 0, none⟩) 10 10::.int .i64 (i : Int)::.int .i64 (k : Int)::u5::u6::.pointer (some ⟨kk, 0, none⟩)::.bool cb::u9::u10::u11::u12::u13::u14::u15::u16::u17::u18::u19::u20::u21::u22::u23::u24::u25::u26::u27::u28::u29::u30::u31::u32::u33::u34::u35::u36::u37::u38::u39::u40::u41::u42::u43::u44::u45::u46::u47::u48::u49::u50::u51::z52::z53::z54::z55::z56::z57::z58::z59::z60::z61::z62::z63::z64::z65::z66::z67::z68::z69::z70::z71::u72::u73::u74::u75::u76::u77::u78::u79::u80::u81::u82::u83::u84::u85::u86::u87::u88::u89::u90::u91::u92::u93::u94::u95::u96::u97::u98::u99::u100::u101::u102::u103::u104::u105::u106::u107::u108::u109::u110::u111::u112::u113::u114::u115::u116::u117::u118::u119::u120::u121::u122::u123::u124::u125::u126::u127::u128::u129::u130::u131::u132::u133::u134::u135::u136::u137::u138::u139::u140::u141::u142::u143::u144::u145::u146::u147::u148::u149::u150::u151::u152::u153::u154::u155::u156::u157::u158::u159::u160::u161::u162::u163::u164::u165::u166::u167::u168::u169::u170::u171::u172::u173::u174::u175::u176::u177::u178::u179::u180::u181::u182::u183::u184::u185::u186::u187::u188::u189::u190::u191::u192::u193::u194::u195::u196::u197::[]), defers := [] } w6) :
    Code.wp Try.prog code_nu11 Q { tmps := List.toArray (u0::u1::.slice (some ⟨NB, 0, none⟩) 10 10::.int .i64 (i : Int)::.int .i64 (k : Int)::u5::u6::u7::u8::u9::u10::u11::u12::u13::u14::u15::u16::u17::u18::u19::u20::u21::u22::u23::u24::u25::u26::u27::u28::u29::u30::u31::u32::u33::u34::u35::u36::u37::u38::u39::u40::u41::u42::u43::u44::u45::u46::u47::u48::u49::u50::u51::u52::u53::u54::u55::u56::u57::u58::u59::u60::u61::u62::u63::u64::u65::u66::u67::u68::u69::u70::u71::u72::u73::u74::u75::u76::u77::u78::u79::u80::u81::u82::u83::u84::u85::u86::u87::u88::u89::u90::u91::u92::u93::u94::u95::u96::u97::u98::u99::u100::u101::u102::u103::u104::u105::u106::u107::u108::u109::u110::u111::u112::u113::u114::u115::u116::u117::u118::u119::u120::u121::u122::u123::u124::u125::u126::u127::u128::u129::u130::u131::u132::u133::u134::u135::u136::u137::u138::u139::u140::u141::u142::u143::u144::u145::u146::u147::u148::u149::u150::u151::u152::u153::u154::u155::u156::u157::u158::u159::u160::u161::u162::u163::u164::u165::u166::u167::u168::u169::u170::u171::u172::u173::u174::u175::u176::u177::u178::u179::u180::u181::u182::u183::u184::u185::u186::u187::u188::u189::u190::u191::u192::u193::u194::u195::u196::u197::[]), defers := [] } wr := by
  have HQ := Lib.hid hQ
  clear hQ
  conv => arg 2; whnf
  refine wp_region_one 20 (by kernel_rfl) (by kernel_rfl) [.slice (some ⟨NB, 0, none⟩) 10 10, .int .i64 (i : Int), .pointer (some ⟨NB, i, none⟩), .int .u64 (ni : Int), .slice (some ⟨NB, 0, none⟩) 10 10, .int .i64 (i : Int), .pointer (some ⟨NB, i, none⟩), .int .u64 (ni : Int), .int .u64 (un : Int), .slice (some ⟨NB, 0, none⟩) 10 10, .int .i64 (k : Int), .pointer (some ⟨NB, k, none⟩), .int .u64 (nk : Int), .int .u64 (bn : Int), .agg #[.int .u64 (ni : Int), .int .u64 (bn : Int)], .agg #[.int .u64 0, .int .u64 18446744073709551615, .int .i64 (-9223372036854775808), .int .i64 9223372036854775807], .tuple #[.agg #[.int .u64 cv, .int .u64 cm, .int .u64 cl, .int .u64 ch, .int .i64 ci, .int .i64 cj], .bool cb], .tuple #[.agg #[.int .u64 cv, .int .u64 cm, .int .u64 cl, .int .u64 ch, .int .i64 ci, .int .i64 cj], .bool cb], .agg #[.int .u64 cv, .int .u64 cm, .int .u64 cl, .int .u64 ch, .int .i64 ci, .int .i64 cj], .bool cb] [[], [], [(0, 53), (1, 54)], [(2, 55)], [], [], [(4, 57), (5, 58)], [(6, 59)], [(7, 60)], [], [], [(9, 62), (10, 63)], [(11, 64)], [(8, 61), (12, 65)], [(3, 56), (13, 66)], [], [(14, 67), (15, 68)], [(16, 69)], [(17, 52)], [(17, 52)]] [[(2, .slice (some ⟨NB, 0, none⟩) 10 10)], [(3, .int .i64 (i : Int))], [], [], [(2, .slice (some ⟨NB, 0, none⟩) 10 10)], [(3, .int .i64 (i : Int))], [], [], [], [(2, .slice (some ⟨NB, 0, none⟩) 10 10)], [(4, .int .i64 (k : Int))], [], [], [], [], [], [], [], [], []] (by kernel_rfl) (by kernel_rfl) (by kernel_rfl) ?_ ?_ [none, none, none, none, none, none, none, some 7, some 8, none, none, none, none, none, none, none, none, none, none, none, none, none, none, none, none, none, none, none, none, none, none, none, none, none, none, none, none, none, none, none, none, none, none, none, none, none, none, none, none, none, none, none, some 52, some 53, some 54, some 55, some 56, some 57, some 58, some 59, some 60, some 61, some 62, some 63, some 64, some 65, some 66, some 67, some 68, some 69, some 70, some 71, none, none, none, none, none, none, none, none, none, none, none, none, none, none, none, none, none, none, none, none, none, none, none, none, none, none, none, none, none, none, none, none, none, none, none, none, none, none, none, none, none, none, none, none, none, none, none, none, none, none, none, none, none, none, none, none, none, none, none, none, none, none, none, none, none, none, none, none, none, none, none, none, none, none, none, none, none, none, none, none, none, none, none, none, none, none, none, none, none, none, none, none, none, none, none, none, none, none, none, none, none, none, none, none, none, none, none, none, none, none, none, none, none, none, none, none, none, none, none, none, none, none, none, none, none, none] (by kernel_rfl) (by rfl) (jx := 18) (jz := 19) (sx := 70) (sz := 71) (A := 7) (c := 8) (zs := #[.int .u64 0, .int .u64 0, .int .u64 0, .int .u64 0, .int .i64 0, .int .i64 0]) (cx := #[.int .u64 cv, .int .u64 cm, .int .u64 cl, .int .u64 ch, .int .i64 ci, .int .i64 cj]) (t := 28) (vx := .agg #[.int .u64 cv, .int .u64 cm, .int .u64 cl, .int .u64 ch, .int .i64 ci, .int .i64 cj]) (vz := .bool cb) rfl rfl rfl rfl rfl rfl (by kernel_rfl) (by kernel_rfl) rfl (by kernel_rfl) rfl ?_ ?_ ?_ ?_
  · exact ⟨⟨rfl, trivial⟩, ⟨rfl, trivial⟩, trivial, trivial, ⟨rfl, trivial⟩, ⟨rfl, trivial⟩, trivial, trivial, trivial, ⟨rfl, trivial⟩, ⟨rfl, trivial⟩, trivial, trivial, trivial, trivial, trivial, trivial, trivial, trivial, trivial, trivial⟩
  · simp only [List.take_succ_cons, List.take_zero]
    refine ⟨fun a9 w9 hR hk hf => ?_, ?_⟩
    · simp only [KnowF, FreeF, and_true] at hk hf
      have e2 : a9.tmps[2]?.getD undef = .slice (some ⟨NB, 0, none⟩) 10 10 := freeF_ev hf
      exact flow_run (by go_simp) (But.refl _ _) (GV.of rfl)
    refine ⟨fun a9 w9 hR hk hf => ?_, ?_⟩
    · simp only [KnowF, FreeF, and_true] at hk hf
      have e3 : a9.tmps[3]?.getD undef = .int .i64 (i : Int) := freeF_ev hf
      exact flow_run (by go_simp) (But.refl _ _) (GV.of rfl)
    refine ⟨fun a9 w9 hR hk hf => ?_, ?_⟩
    · simp only [KnowF, FreeF, and_true] at hk hf
      have e53 := (hk.1).ev rfl
      have e54 := (hk.2).ev rfl
      have g0 := HI0.out
      have g1 := HI1.out
      exact flow_run (by go_simp) (But.refl _ _) (GV.of rfl)
    refine ⟨fun a9 w9 hR hk hf => ?_, ?_⟩
    · simp only [KnowF, FreeF, and_true] at hk hf
      have e55 := (hk).ev rfl
      have f0 := cell_but hR HNI.out (by simp)
      exact flow_run (by go_simp) (But.refl _ _) (GV.of rfl)
    refine ⟨fun a9 w9 hR hk hf => ?_, ?_⟩
    · simp only [KnowF, FreeF, and_true] at hk hf
      have e2 : a9.tmps[2]?.getD undef = .slice (some ⟨NB, 0, none⟩) 10 10 := freeF_ev hf
      exact flow_run (by go_simp) (But.refl _ _) (GV.of rfl)
    refine ⟨fun a9 w9 hR hk hf => ?_, ?_⟩
    · simp only [KnowF, FreeF, and_true] at hk hf
      have e3 : a9.tmps[3]?.getD undef = .int .i64 (i : Int) := freeF_ev hf
      exact flow_run (by go_simp) (But.refl _ _) (GV.of rfl)
    refine ⟨fun a9 w9 hR hk hf => ?_, ?_⟩
    · simp only [KnowF, FreeF, and_true] at hk hf
      have e57 := (hk.1).ev rfl
      have e58 := (hk.2).ev rfl
      have g0 := HI0.out
      have g1 := HI1.out
      exact flow_run (by go_simp) (But.refl _ _) (GV.of rfl)
    refine ⟨fun a9 w9 hR hk hf => ?_, ?_⟩
    · simp only [KnowF, FreeF, and_true] at hk hf
      have e59 := (hk).ev rfl
      have f0 := cell_but hR HNI.out (by simp)
      exact flow_run (by go_simp) (But.refl _ _) (GV.of rfl)
    refine ⟨fun a9 w9 hR hk hf => ?_, ?_⟩
    · simp only [KnowF, FreeF, and_true] at hk hf
      have e60 := (hk).ev rfl
      have hX := HX1.out
      have hsg : IntKind.u64.signed = false := rfl
      exact flow_run (by go_simp) (But.refl _ _) (GV.of rfl)
    refine ⟨fun a9 w9 hR hk hf => ?_, ?_⟩
    · simp only [KnowF, FreeF, and_true] at hk hf
      have e2 : a9.tmps[2]?.getD undef = .slice (some ⟨NB, 0, none⟩) 10 10 := freeF_ev hf
      exact flow_run (by go_simp) (But.refl _ _) (GV.of rfl)
    refine ⟨fun a9 w9 hR hk hf => ?_, ?_⟩
    · simp only [KnowF, FreeF, and_true] at hk hf
      have e4 : a9.tmps[4]?.getD undef = .int .i64 (k : Int) := freeF_ev hf
      exact flow_run (by go_simp) (But.refl _ _) (GV.of rfl)
    refine ⟨fun a9 w9 hR hk hf => ?_, ?_⟩
    · simp only [KnowF, FreeF, and_true] at hk hf
      have e62 := (hk.1).ev rfl
      have e63 := (hk.2).ev rfl
      have g0 := HK0.out
      have g1 := HK1.out
      exact flow_run (by go_simp) (But.refl _ _) (GV.of rfl)
    refine ⟨fun a9 w9 hR hk hf => ?_, ?_⟩
    · simp only [KnowF, FreeF, and_true] at hk hf
      have e64 := (hk).ev rfl
      have f0 := cell_but hR HNK.out (by simp)
      exact flow_run (by go_simp) (But.refl _ _) (GV.of rfl)
    refine ⟨fun a9 w9 hR hk hf => ?_, ?_⟩
    · simp only [KnowF, FreeF, and_true] at hk hf
      have e61 := (hk.1).ev rfl
      have e65 := (hk.2).ev rfl
      have hX := HX2.out
      have hY := HX3.out
      exact flow_run (by go_simp) (But.refl _ _) (GV.of rfl)
    refine ⟨fun a9 w9 hR hk hf => ?_, ?_⟩
    · simp only [KnowF, FreeF, and_true] at hk hf
      have e56 := (hk.1).ev rfl
      have e66 := (hk.2).ev rfl
      exact flow_run (by go_simp) (But.refl _ _) (GV.of rfl)
    refine ⟨fun a9 w9 hR hk hf => ?_, ?_⟩
    · simp only [KnowF, FreeF, and_true] at hk hf
      exact flow_run (by go_simp) (But.refl _ _) (GV.of rfl)
    refine ⟨fun a9 w9 hR hk hf => ?_, ?_⟩
    · simp only [KnowF, FreeF, and_true] at hk hf
      have e67 := (hk.1).ev rfl
      have e68 := (hk.2).ev rfl
      exact flow_call (f := 10) (args := #[.agg #[.int .u64 (ni : Int), .int .u64 (bn : Int)], .agg #[.int .u64 0, .int .u64 18446744073709551615, .int .i64 (-9223372036854775808), .int .i64 9223372036854775807]]) (by go_simp) ((HOF.out _).mono (by rintro e w' ⟨rfl, hb⟩; exact ⟨_, rfl, hb, GV.of rfl⟩))
    refine ⟨fun a9 w9 hR hk hf => ?_, ?_⟩
    · simp only [KnowF, FreeF, and_true] at hk hf
      have e69 := (hk).ev rfl
      exact flow_run (by go_simp) (But.refl _ _) (GV.of rfl)
    refine ⟨fun a9 w9 hR hk hf => ?_, ?_⟩
    · simp only [KnowF, FreeF, and_true] at hk hf
      have e52 := (hk).ev rfl
      exact flow_run (by go_simp) (But.refl _ _) (GV.of rfl)
    refine ⟨fun a9 w9 hR hk hf => ?_, ?_⟩
    · simp only [KnowF, FreeF, and_true] at hk hf
      have e52 := (hk).ev rfl
      exact flow_run (by go_simp) (But.refl _ _) (GV.of rfl)
    exact trivial
  · exact fun a w => pair_alloc (v := ptr0 w.heap.size) (by unfold ptr0; go_simp)
  · intro a w k e1 e2 h
    unfold ptr0 at e1
    have f0 := fz_of h 0
    have f1 := fz_of h 1
    have f2 := fz_of h 2
    have f3 := fz_of h 3
    have f4 := fz_of h 4
    have f5 := fz_of h 5
    have c0 := cl_of h 0
    have c1 := cl_of h 1
    have c2 := cl_of h 2
    have c3 := cl_of h 3
    have c4 := cl_of h 4
    have c5 := cl_of h 5
    simp only [List.getElem?_toArray, List.getElem?_cons_zero, List.getElem?_cons_succ] at c0 c1 c2 c3 c4 c5 f0 f1 f2 f3 f4 f5
    exact pair_store rfl (w' := ((((((w.setCell ⟨k, 0, none⟩ (.int .u64 cv)).setCell ⟨k, 1, none⟩ (.int .u64 cm)).setCell ⟨k, 2, none⟩ (.int .u64 cl)).setCell ⟨k, 3, none⟩ (.int .u64 ch)).setCell ⟨k, 4, none⟩ (.int .i64 ci)).setCell ⟨k, 5, none⟩ (.int .i64 cj))) (by go_simp) but6x (set6x h)
  · intro a w e
    exact pair_alloc (v := .bool cb) (by go_simp)
  · intro f w kA hb eA ec h1 h4
    show Q .normal { tmps := List.toArray (u0::u1::.slice (some ⟨NB, 0, none⟩) 10 10::.int .i64 (i : Int)::.int .i64 (k : Int)::u5::u6::f 7::f 8::u9::u10::u11::u12::u13::u14::u15::u16::u17::u18::u19::u20::u21::u22::u23::u24::u25::u26::u27::u28::u29::u30::u31::u32::u33::u34::u35::u36::u37::u38::u39::u40::u41::u42::u43::u44::u45::u46::u47::u48::u49::u50::u51::f 52::f 53::f 54::f 55::f 56::f 57::f 58::f 59::f 60::f 61::f 62::f 63::f 64::f 65::f 66::f 67::f 68::f 69::f 70::f 71::u72::u73::u74::u75::u76::u77::u78::u79::u80::u81::u82::u83::u84::u85::u86::u87::u88::u89::u90::u91::u92::u93::u94::u95::u96::u97::u98::u99::u100::u101::u102::u103::u104::u105::u106::u107::u108::u109::u110::u111::u112::u113::u114::u115::u116::u117::u118::u119::u120::u121::u122::u123::u124::u125::u126::u127::u128::u129::u130::u131::u132::u133::u134::u135::u136::u137::u138::u139::u140::u141::u142::u143::u144::u145::u146::u147::u148::u149::u150::u151::u152::u153::u154::u155::u156::u157::u158::u159::u160::u161::u162::u163::u164::u165::u166::u167::u168::u169::u170::u171::u172::u173::u174::u175::u176::u177::u178::u179::u180::u181::u182::u183::u184::u185::u186::u187::u188::u189::u190::u191::u192::u193::u194::u195::u196::u197::[]), defers := [] } w
    unfold ptr0 at eA
    rw [eA, ec]
    exact HQ.out _ _ _ _ _ _ _ _ _ _ _ _ _ _ _ _ _ _ _ _ _ _ hb h1 h4
noncomputable def code_nu12 : Code := ((Try.f4.body.getD .skip |> regionR 12).getD .skip)
set_option maxRecDepth 100000 in
set_option maxHeartbeats 8000000 in
theorem nu12 (Q : Exit → Act → World → Prop) {wr : World} {yi yk p q : Int} {NB i k ni nk : Nat} {cv cm cl ch : Nat} {ci cj : Int} {cb : Bool} (HI0 : Hid ((0 : Int) ≤ (i : Int))) (HI1 : Hid ((i : Int) < 10)) (HK0 : Hid ((0 : Int) ≤ (k : Int))) (HK1 : Hid ((k : Int) < 10)) (HNI : Hid (wr.cell? ⟨NB, i, none⟩ = some (.int .u64 (ni : Int)))) (HNK : Hid (wr.cell? ⟨NB, k, none⟩ = some (.int .u64 (nk : Int)))) (HW1 : Hid (IntKind.i64.wrap (ni : Int) = yi)) (HW2 : Hid (IntKind.i64.wrap (nk : Int) = yk)) (HW3 : Hid (min yi yk = p)) (HW4 : Hid (max yi yk = q)) (HOF : Hid (∀ w, Calls Try.prog 10 #[.agg #[.int .u64 0, .int .u64 18446744073709551615], .agg #[.int .u64 0, .int .u64 18446744073709551615, .int .i64 p, .int .i64 q]] w fun e w' => e = .returned (.tuple #[.agg #[.int .u64 cv, .int .u64 cm, .int .u64 cl, .int .u64 ch, .int .i64 ci, .int .i64 cj], .bool cb]) ∧ But [] w w')) {u0 u1 u5 u6 u7 u8 u9 u10 u11 u12 u13 u14 u15 u16 u17 u18 u19 u20 u21 u22 u23 u24 u25 u26 u27 u28 u29 u30 u31 u32 u33 u34 u35 u36 u37 u38 u39 u40 u41 u42 u43 u44 u45 u46 u47 u48 u49 u50 u51 u52 u53 u54 u55 u56 u57 u58 u59 u60 u61 u62 u63 u64 u65 u66 u67 u68 u69 u70 u71 u72 u73 u74 u75 u76 u77 u78 u79 u80 u81 u82 u83 u84 u85 u86 u87 u88 u89 u90 u91 u92 u93 u94 u95 u96 u97 u98 u99 u100 u101 u102 u103 u104 u105 u106 u107 u108 u109 u110 u111 u112 u113 u114 u115 u116 u117 u118 u119 u120 u121 u122 u123 u124 u125 u126 u127 u128 u129 u130 u131 u132 u133 u134 u135 u136 u137 u138 u139 u140 u141 u142 u143 u144 u145 u146 u147 u148 u149 u150 u151 u152 u153 u154 u155 u156 u157 u158 u159 u160 u161 u162 u163 u164 u165 u166 u167 u168 u169 u170 u171 u172 u173 u174 u175 u176 u177 u178 u179 u180 u181 u182 u183 u184 u185 u186 u187 u188 u189 u190 u191 u192 u193 u194 u195 u196 u197 : Value} (hQ : ∀ (z73 z74 z75 z76 z77 z78 z79 z80 z81 z82 z83 z84 z85 z86 z87 z88 z89 z90 z91 z92 z93 z94 z95 z96 z97 z72 z98 z99 : Value) (w6 : World) (kk : Nat), But [] wr w6 → wr.heap.size ≤ kk → w6.heap[kk]? = some (.cells #[.int .u64 cv, .int .u64 cm, .int .u64 cl, .int .u64 ch, .int .i64 ci, .int .i64 cj] 28) → Q .normal { tmps := List.toArray (u0::u1::.slice (some ⟨NB, 0, none⟩) 10 10::.int .i64 (i : Int)::.int .i64 (k : Int)::u5::u6::u7::u8::.pointer (some ⟨kk, 0, none⟩)::.bool cb::u11::u12::u13::u14::u15::u16::u17::u18::u19::u20::u21::u22::u23::u24::u25::u26::u27::u28::u29::u30::u31::u32::u33::u34::u35::u36::u37::u38::u39::u40::u41::u42::u43::u44::u45::u46::u47::u48::u49::u50::u51::u52::u53::u54::u55::u56::u57::u58::u59::u60::u61::u62::u63::u64::u65::u66::u67::u68::u69::u70::u71::z72::z73::z74::z75::z76::z77::z78::z79::z80::z81::z82::z83::z84::z85::z86::z87::z88::z89::z90::z91::z92::z93::z94::z95::z96::z97::z98::z99::u100::u101::u102::u103::u104::u105::u106::u107::u108::u109::u110::u111::u112::u113::u114::u115::u116::u117::u118::u119::u120::u121::u122::u123::u124::u125::u126::u127::u128::u129::u130::u131::u132::u133::u134::u135::u136::u137::u138::u139::u140::u141::u142::u143::u144::u145::u146::u147::u148::u149::u150::u151::u152::u153::u154::u155::u156::u157::u158::u159::u160::u161::u162::u163::u164::u165::u166::u167::u168::u169::u170::u171::u172::u173::u174::u175::u176::u177::u178::u179::u180::u181::u182::u183::u184::u185::u186::u187::u188::u189::u190::u191::u192::u193::u194::u195::u196::u197::[]), defers := [] } w6) :
    Code.wp Try.prog code_nu12 Q { tmps := List.toArray (u0::u1::.slice (some ⟨NB, 0, none⟩) 10 10::.int .i64 (i : Int)::.int .i64 (k : Int)::u5::u6::u7::u8::u9::u10::u11::u12::u13::u14::u15::u16::u17::u18::u19::u20::u21::u22::u23::u24::u25::u26::u27::u28::u29::u30::u31::u32::u33::u34::u35::u36::u37::u38::u39::u40::u41::u42::u43::u44::u45::u46::u47::u48::u49::u50::u51::u52::u53::u54::u55::u56::u57::u58::u59::u60::u61::u62::u63::u64::u65::u66::u67::u68::u69::u70::u71::u72::u73::u74::u75::u76::u77::u78::u79::u80::u81::u82::u83::u84::u85::u86::u87::u88::u89::u90::u91::u92::u93::u94::u95::u96::u97::u98::u99::u100::u101::u102::u103::u104::u105::u106::u107::u108::u109::u110::u111::u112::u113::u114::u115::u116::u117::u118::u119::u120::u121::u122::u123::u124::u125::u126::u127::u128::u129::u130::u131::u132::u133::u134::u135::u136::u137::u138::u139::u140::u141::u142::u143::u144::u145::u146::u147::u148::u149::u150::u151::u152::u153::u154::u155::u156::u157::u158::u159::u160::u161::u162::u163::u164::u165::u166::u167::u168::u169::u170::u171::u172::u173::u174::u175::u176::u177::u178::u179::u180::u181::u182::u183::u184::u185::u186::u187::u188::u189::u190::u191::u192::u193::u194::u195::u196::u197::[]), defers := [] } wr := by
  have HQ := Lib.hid hQ
  clear hQ
  conv => arg 2; whnf
  refine wp_region_one 28 (by kernel_rfl) (by kernel_rfl) [.agg #[.int .u64 0, .int .u64 18446744073709551615], .slice (some ⟨NB, 0, none⟩) 10 10, .int .i64 (i : Int), .pointer (some ⟨NB, i, none⟩), .int .u64 (ni : Int), .int .i64 yi, .slice (some ⟨NB, 0, none⟩) 10 10, .int .i64 (k : Int), .pointer (some ⟨NB, k, none⟩), .int .u64 (nk : Int), .int .i64 yk, .int .i64 p, .slice (some ⟨NB, 0, none⟩) 10 10, .int .i64 (i : Int), .pointer (some ⟨NB, i, none⟩), .int .u64 (ni : Int), .int .i64 yi, .slice (some ⟨NB, 0, none⟩) 10 10, .int .i64 (k : Int), .pointer (some ⟨NB, k, none⟩), .int .u64 (nk : Int), .int .i64 yk, .int .i64 q, .agg #[.int .u64 0, .int .u64 18446744073709551615, .int .i64 p, .int .i64 q], .tuple #[.agg #[.int .u64 cv, .int .u64 cm, .int .u64 cl, .int .u64 ch, .int .i64 ci, .int .i64 cj], .bool cb], .tuple #[.agg #[.int .u64 cv, .int .u64 cm, .int .u64 cl, .int .u64 ch, .int .i64 ci, .int .i64 cj], .bool cb], .agg #[.int .u64 cv, .int .u64 cm, .int .u64 cl, .int .u64 ch, .int .i64 ci, .int .i64 cj], .bool cb] [[], [], [], [(1, 74), (2, 75)], [(3, 76)], [(4, 77)], [], [], [(6, 79), (7, 80)], [(8, 81)], [(9, 82)], [(5, 78), (10, 83)], [], [], [(12, 85), (13, 86)], [(14, 87)], [(15, 88)], [], [], [(17, 90), (18, 91)], [(19, 92)], [(20, 93)], [(16, 89), (21, 94)], [(11, 84), (22, 95)], [(0, 73), (23, 96)], [(24, 97)], [(25, 72)], [(25, 72)]] [[], [(2, .slice (some ⟨NB, 0, none⟩) 10 10)], [(3, .int .i64 (i : Int))], [], [], [], [(2, .slice (some ⟨NB, 0, none⟩) 10 10)], [(4, .int .i64 (k : Int))], [], [], [], [], [(2, .slice (some ⟨NB, 0, none⟩) 10 10)], [(3, .int .i64 (i : Int))], [], [], [], [(2, .slice (some ⟨NB, 0, none⟩) 10 10)], [(4, .int .i64 (k : Int))], [], [], [], [], [], [], [], [], []] (by kernel_rfl) (by kernel_rfl) (by kernel_rfl) ?_ ?_ [none, none, none, none, none, none, none, none, none, some 9, some 10, none, none, none, none, none, none, none, none, none, none, none, none, none, none, none, none, none, none, none, none, none, none, none, none, none, none, none, none, none, none, none, none, none, none, none, none, none, none, none, none, none, none, none, none, none, none, none, none, none, none, none, none, none, none, none, none, none, none, none, none, none, some 72, some 73, some 74, some 75, some 76, some 77, some 78, some 79, some 80, some 81, some 82, some 83, some 84, some 85, some 86, some 87, some 88, some 89, some 90, some 91, some 92, some 93, some 94, some 95, some 96, some 97, some 98, some 99, none, none, none, none, none, none, none, none, none, none, none, none, none, none, none, none, none, none, none, none, none, none, none, none, none, none, none, none, none, none, none, none, none, none, none, none, none, none, none, none, none, none, none, none, none, none, none, none, none, none, none, none, none, none, none, none, none, none, none, none, none, none, none, none, none, none, none, none, none, none, none, none, none, none, none, none, none, none, none, none, none, none, none, none, none, none, none, none, none, none, none, none, none, none, none, none, none, none] (by kernel_rfl) (by rfl) (jx := 26) (jz := 27) (sx := 98) (sz := 99) (A := 9) (c := 10) (zs := #[.int .u64 0, .int .u64 0, .int .u64 0, .int .u64 0, .int .i64 0, .int .i64 0]) (cx := #[.int .u64 cv, .int .u64 cm, .int .u64 cl, .int .u64 ch, .int .i64 ci, .int .i64 cj]) (t := 28) (vx := .agg #[.int .u64 cv, .int .u64 cm, .int .u64 cl, .int .u64 ch, .int .i64 ci, .int .i64 cj]) (vz := .bool cb) rfl rfl rfl rfl rfl rfl (by kernel_rfl) (by kernel_rfl) rfl (by kernel_rfl) rfl ?_ ?_ ?_ ?_
  · exact ⟨trivial, ⟨rfl, trivial⟩, ⟨rfl, trivial⟩, trivial, trivial, trivial, ⟨rfl, trivial⟩, ⟨rfl, trivial⟩, trivial, trivial, trivial, trivial, ⟨rfl, trivial⟩, ⟨rfl, trivial⟩, trivial, trivial, trivial, ⟨rfl, trivial⟩, ⟨rfl, trivial⟩, trivial, trivial, trivial, trivial, trivial, trivial, trivial, trivial, trivial, trivial⟩
  · simp only [List.take_succ_cons, List.take_zero]
    refine ⟨fun a9 w9 hR hk hf => ?_, ?_⟩
    · simp only [KnowF, FreeF, and_true] at hk hf
      exact flow_run (by go_simp) (But.refl _ _) (GV.of rfl)
    refine ⟨fun a9 w9 hR hk hf => ?_, ?_⟩
    · simp only [KnowF, FreeF, and_true] at hk hf
      have e2 : a9.tmps[2]?.getD undef = .slice (some ⟨NB, 0, none⟩) 10 10 := freeF_ev hf
      exact flow_run (by go_simp) (But.refl _ _) (GV.of rfl)
    refine ⟨fun a9 w9 hR hk hf => ?_, ?_⟩
    · simp only [KnowF, FreeF, and_true] at hk hf
      have e3 : a9.tmps[3]?.getD undef = .int .i64 (i : Int) := freeF_ev hf
      exact flow_run (by go_simp) (But.refl _ _) (GV.of rfl)
    refine ⟨fun a9 w9 hR hk hf => ?_, ?_⟩
    · simp only [KnowF, FreeF, and_true] at hk hf
      have e74 := (hk.1).ev rfl
      have e75 := (hk.2).ev rfl
      have g0 := HI0.out
      have g1 := HI1.out
      exact flow_run (by go_simp) (But.refl _ _) (GV.of rfl)
    refine ⟨fun a9 w9 hR hk hf => ?_, ?_⟩
    · simp only [KnowF, FreeF, and_true] at hk hf
      have e76 := (hk).ev rfl
      have f0 := cell_but hR HNI.out (by simp)
      exact flow_run (by go_simp) (But.refl _ _) (GV.of rfl)
    refine ⟨fun a9 w9 hR hk hf => ?_, ?_⟩
    · simp only [KnowF, FreeF, and_true] at hk hf
      have e77 := (hk).ev rfl
      have g0 := HW1.out
      exact flow_run (by go_simp) (But.refl _ _) (GV.of rfl)
    refine ⟨fun a9 w9 hR hk hf => ?_, ?_⟩
    · simp only [KnowF, FreeF, and_true] at hk hf
      have e2 : a9.tmps[2]?.getD undef = .slice (some ⟨NB, 0, none⟩) 10 10 := freeF_ev hf
      exact flow_run (by go_simp) (But.refl _ _) (GV.of rfl)
    refine ⟨fun a9 w9 hR hk hf => ?_, ?_⟩
    · simp only [KnowF, FreeF, and_true] at hk hf
      have e4 : a9.tmps[4]?.getD undef = .int .i64 (k : Int) := freeF_ev hf
      exact flow_run (by go_simp) (But.refl _ _) (GV.of rfl)
    refine ⟨fun a9 w9 hR hk hf => ?_, ?_⟩
    · simp only [KnowF, FreeF, and_true] at hk hf
      have e79 := (hk.1).ev rfl
      have e80 := (hk.2).ev rfl
      have g0 := HK0.out
      have g1 := HK1.out
      exact flow_run (by go_simp) (But.refl _ _) (GV.of rfl)
    refine ⟨fun a9 w9 hR hk hf => ?_, ?_⟩
    · simp only [KnowF, FreeF, and_true] at hk hf
      have e81 := (hk).ev rfl
      have f0 := cell_but hR HNK.out (by simp)
      exact flow_run (by go_simp) (But.refl _ _) (GV.of rfl)
    refine ⟨fun a9 w9 hR hk hf => ?_, ?_⟩
    · simp only [KnowF, FreeF, and_true] at hk hf
      have e82 := (hk).ev rfl
      have g0 := HW2.out
      exact flow_run (by go_simp) (But.refl _ _) (GV.of rfl)
    refine ⟨fun a9 w9 hR hk hf => ?_, ?_⟩
    · simp only [KnowF, FreeF, and_true] at hk hf
      have e78 := (hk.1).ev rfl
      have e83 := (hk.2).ev rfl
      have g0 := HW3.out
      exact flow_run (by go_simp) (But.refl _ _) (GV.of rfl)
    refine ⟨fun a9 w9 hR hk hf => ?_, ?_⟩
    · simp only [KnowF, FreeF, and_true] at hk hf
      have e2 : a9.tmps[2]?.getD undef = .slice (some ⟨NB, 0, none⟩) 10 10 := freeF_ev hf
      exact flow_run (by go_simp) (But.refl _ _) (GV.of rfl)
    refine ⟨fun a9 w9 hR hk hf => ?_, ?_⟩
    · simp only [KnowF, FreeF, and_true] at hk hf
      have e3 : a9.tmps[3]?.getD undef = .int .i64 (i : Int) := freeF_ev hf
      exact flow_run (by go_simp) (But.refl _ _) (GV.of rfl)
    refine ⟨fun a9 w9 hR hk hf => ?_, ?_⟩
    · simp only [KnowF, FreeF, and_true] at hk hf
      have e85 := (hk.1).ev rfl
      have e86 := (hk.2).ev rfl
      have g0 := HI0.out
      have g1 := HI1.out
      exact flow_run (by go_simp) (But.refl _ _) (GV.of rfl)
    refine ⟨fun a9 w9 hR hk hf => ?_, ?_⟩
    · simp only [KnowF, FreeF, and_true] at hk hf
      have e87 := (hk).ev rfl
      have f0 := cell_but hR HNI.out (by simp)
      exact flow_run (by go_simp) (But.refl _ _) (GV.of rfl)
    refine ⟨fun a9 w9 hR hk hf => ?_, ?_⟩
    · simp only [KnowF, FreeF, and_true] at hk hf
      have e88 := (hk).ev rfl
      have g0 := HW1.out
      exact flow_run (by go_simp) (But.refl _ _) (GV.of rfl)
    refine ⟨fun a9 w9 hR hk hf => ?_, ?_⟩
    · simp only [KnowF, FreeF, and_true] at hk hf
      have e2 : a9.tmps[2]?.getD undef = .slice (some ⟨NB, 0, none⟩) 10 10 := freeF_ev hf
      exact flow_run (by go_simp) (But.refl _ _) (GV.of rfl)
    refine ⟨fun a9 w9 hR hk hf => ?_, ?_⟩
    · simp only [KnowF, FreeF, and_true] at hk hf
      have e4 : a9.tmps[4]?.getD undef = .int .i64 (k : Int) := freeF_ev hf
      exact flow_run (by go_simp) (But.refl _ _) (GV.of rfl)
    refine ⟨fun a9 w9 hR hk hf => ?_, ?_⟩
    · simp only [KnowF, FreeF, and_true] at hk hf
      have e90 := (hk.1).ev rfl
      have e91 := (hk.2).ev rfl
      have g0 := HK0.out
      have g1 := HK1.out
      exact flow_run (by go_simp) (But.refl _ _) (GV.of rfl)
    refine ⟨fun a9 w9 hR hk hf => ?_, ?_⟩
    · simp only [KnowF, FreeF, and_true] at hk hf
      have e92 := (hk).ev rfl
      have f0 := cell_but hR HNK.out (by simp)
      exact flow_run (by go_simp) (But.refl _ _) (GV.of rfl)
    refine ⟨fun a9 w9 hR hk hf => ?_, ?_⟩
    · simp only [KnowF, FreeF, and_true] at hk hf
      have e93 := (hk).ev rfl
      have g0 := HW2.out
      exact flow_run (by go_simp) (But.refl _ _) (GV.of rfl)
    refine ⟨fun a9 w9 hR hk hf => ?_, ?_⟩
    · simp only [KnowF, FreeF, and_true] at hk hf
      have e89 := (hk.1).ev rfl
      have e94 := (hk.2).ev rfl
      have g0 := HW4.out
      exact flow_run (by go_simp) (But.refl _ _) (GV.of rfl)
    refine ⟨fun a9 w9 hR hk hf => ?_, ?_⟩
    · simp only [KnowF, FreeF, and_true] at hk hf
      have e84 := (hk.1).ev rfl
      have e95 := (hk.2).ev rfl
      exact flow_run (by go_simp) (But.refl _ _) (GV.of rfl)
    refine ⟨fun a9 w9 hR hk hf => ?_, ?_⟩
    · simp only [KnowF, FreeF, and_true] at hk hf
      have e73 := (hk.1).ev rfl
      have e96 := (hk.2).ev rfl
      exact flow_call (f := 10) (args := #[.agg #[.int .u64 0, .int .u64 18446744073709551615], .agg #[.int .u64 0, .int .u64 18446744073709551615, .int .i64 p, .int .i64 q]]) (by go_simp) ((HOF.out _).mono (by rintro e w' ⟨rfl, hb⟩; exact ⟨_, rfl, hb, GV.of rfl⟩))
    refine ⟨fun a9 w9 hR hk hf => ?_, ?_⟩
    · simp only [KnowF, FreeF, and_true] at hk hf
      have e97 := (hk).ev rfl
      exact flow_run (by go_simp) (But.refl _ _) (GV.of rfl)
    refine ⟨fun a9 w9 hR hk hf => ?_, ?_⟩
    · simp only [KnowF, FreeF, and_true] at hk hf
      have e72 := (hk).ev rfl
      exact flow_run (by go_simp) (But.refl _ _) (GV.of rfl)
    refine ⟨fun a9 w9 hR hk hf => ?_, ?_⟩
    · simp only [KnowF, FreeF, and_true] at hk hf
      have e72 := (hk).ev rfl
      exact flow_run (by go_simp) (But.refl _ _) (GV.of rfl)
    exact trivial
  · exact fun a w => pair_alloc (v := ptr0 w.heap.size) (by unfold ptr0; go_simp)
  · intro a w k e1 e2 h
    unfold ptr0 at e1
    have f0 := fz_of h 0
    have f1 := fz_of h 1
    have f2 := fz_of h 2
    have f3 := fz_of h 3
    have f4 := fz_of h 4
    have f5 := fz_of h 5
    have c0 := cl_of h 0
    have c1 := cl_of h 1
    have c2 := cl_of h 2
    have c3 := cl_of h 3
    have c4 := cl_of h 4
    have c5 := cl_of h 5
    simp only [List.getElem?_toArray, List.getElem?_cons_zero, List.getElem?_cons_succ] at c0 c1 c2 c3 c4 c5 f0 f1 f2 f3 f4 f5
    exact pair_store rfl (w' := ((((((w.setCell ⟨k, 0, none⟩ (.int .u64 cv)).setCell ⟨k, 1, none⟩ (.int .u64 cm)).setCell ⟨k, 2, none⟩ (.int .u64 cl)).setCell ⟨k, 3, none⟩ (.int .u64 ch)).setCell ⟨k, 4, none⟩ (.int .i64 ci)).setCell ⟨k, 5, none⟩ (.int .i64 cj))) (by go_simp) but6x (set6x h)
  · intro a w e
    exact pair_alloc (v := .bool cb) (by go_simp)
  · intro f w kA hb eA ec h1 h4
    show Q .normal { tmps := List.toArray (u0::u1::.slice (some ⟨NB, 0, none⟩) 10 10::.int .i64 (i : Int)::.int .i64 (k : Int)::u5::u6::u7::u8::f 9::f 10::u11::u12::u13::u14::u15::u16::u17::u18::u19::u20::u21::u22::u23::u24::u25::u26::u27::u28::u29::u30::u31::u32::u33::u34::u35::u36::u37::u38::u39::u40::u41::u42::u43::u44::u45::u46::u47::u48::u49::u50::u51::u52::u53::u54::u55::u56::u57::u58::u59::u60::u61::u62::u63::u64::u65::u66::u67::u68::u69::u70::u71::f 72::f 73::f 74::f 75::f 76::f 77::f 78::f 79::f 80::f 81::f 82::f 83::f 84::f 85::f 86::f 87::f 88::f 89::f 90::f 91::f 92::f 93::f 94::f 95::f 96::f 97::f 98::f 99::u100::u101::u102::u103::u104::u105::u106::u107::u108::u109::u110::u111::u112::u113::u114::u115::u116::u117::u118::u119::u120::u121::u122::u123::u124::u125::u126::u127::u128::u129::u130::u131::u132::u133::u134::u135::u136::u137::u138::u139::u140::u141::u142::u143::u144::u145::u146::u147::u148::u149::u150::u151::u152::u153::u154::u155::u156::u157::u158::u159::u160::u161::u162::u163::u164::u165::u166::u167::u168::u169::u170::u171::u172::u173::u174::u175::u176::u177::u178::u179::u180::u181::u182::u183::u184::u185::u186::u187::u188::u189::u190::u191::u192::u193::u194::u195::u196::u197::[]), defers := [] } w
    unfold ptr0 at eA
    rw [eA, ec]
    exact HQ.out _ _ _ _ _ _ _ _ _ _ _ _ _ _ _ _ _ _ _ _ _ _ _ _ _ _ _ _ _ _ hb h1 h4
noncomputable def code_nu27 : Code := ((Try.f4.body.getD .skip |> regionR 27).getD .skip)
set_option maxRecDepth 100000 in
set_option maxHeartbeats 8000000 in
theorem nu27 (Q : Exit → Act → World → Prop) {wr : World} {g len cap i n o q p bb : Nat} {r3 r2 : Int} {wd tk : Bool} {v m lo hi xv xm xlo xhi : Nat} {sl sh xsl xsh : Int} (HI0 : Hid ((0 : Int) ≤ (i : Int))) (HI1 : Hid ((i : Int) < (len : Int))) (H148 : Hid (IntKind.i64.wrap ((o : Int) * 16) = (q : Int))) (H149 : Hid (IntKind.u8.wrap (q : Int) = (p : Int))) (H151 : Hid (((n : Int)).tmod 3 = r3)) (H152 : Hid (decide (r3 > 0) = wd)) (H159 : Hid (((n : Int)).tmod 2 = r2)) (H160 : Hid ((r2 == 0) = tk)) (HREC : Hid (∀ w9, But [] wr w9 → w9.cell? ⟨g, i * 6, none⟩ = some (.int .u64 v) ∧ w9.cell? ⟨g, i * 6 + 1, none⟩ = some (.int .u64 m) ∧ w9.cell? ⟨g, i * 6 + 2, none⟩ = some (.int .u64 lo) ∧ w9.cell? ⟨g, i * 6 + 3, none⟩ = some (.int .u64 hi) ∧ w9.cell? ⟨g, i * 6 + 4, none⟩ = some (.int .i64 sl) ∧ w9.cell? ⟨g, i * 6 + 5, none⟩ = some (.int .i64 sh))) (HBB : Hid (wr.heap[bb]? = some (.cells #[.int .u64 xv, .int .u64 xm, .int .u64 xlo, .int .u64 xhi, .int .i64 xsl, .int .i64 xsh] 28))) (HT : Hid (∀ w, Calls Try.prog 7 #[.int .u8 (p : Int), .bool wd, .agg #[.int .u64 v, .int .u64 m, .int .u64 lo, .int .u64 hi, .int .i64 sl, .int .i64 sh], .agg #[.int .u64 xv, .int .u64 xm, .int .u64 xlo, .int .u64 xhi, .int .i64 xsl, .int .i64 xsh], .bool tk] w fun e w' => e = .returned (.bool true) ∧ But [] w w')) {u0 u2 u3 u4 u5 u6 u7 u8 u9 u10 u15 u16 u17 u18 u19 u20 u21 u22 u23 u24 u25 u26 u27 u28 u29 u30 u31 u32 u33 u34 u35 u36 u37 u38 u39 u40 u41 u42 u43 u44 u45 u46 u47 u48 u49 u50 u51 u52 u53 u54 u55 u56 u57 u58 u59 u60 u61 u62 u63 u64 u65 u66 u67 u68 u69 u70 u71 u72 u73 u74 u75 u76 u77 u78 u79 u80 u81 u82 u83 u84 u85 u86 u87 u88 u89 u90 u91 u92 u93 u94 u95 u96 u97 u98 u99 u100 u101 u102 u103 u104 u105 u106 u107 u108 u109 u110 u111 u112 u113 u114 u115 u116 u117 u118 u119 u120 u121 u122 u123 u124 u125 u126 u127 u128 u129 u130 u131 u132 u133 u134 u135 u136 u137 u138 u139 u140 u141 u142 u143 u144 u145 u146 u147 u148 u149 u150 u151 u152 u153 u154 u155 u156 u157 u158 u159 u160 u161 u162 u163 u164 u165 u166 u167 u168 u169 u170 u171 u172 u173 u174 u175 u176 u177 u178 u179 u180 u181 u182 u183 u184 u185 u186 u187 u188 u189 u190 u191 u192 u193 u194 u195 u196 u197 : Value} (hQ : ∀ (z147 z148 z149 z150 z151 z152 z153 z154 z155 z156 z157 z158 z159 z160 z161 : Value) (w5 : World), But [] wr w5 → Q .normal { tmps := List.toArray (u0::.slice (some ⟨g, 0, none⟩) len cap::u2::u3::u4::u5::u6::u7::u8::u9::u10::.int .i64 (i : Int)::.int .i64 (n : Int)::.pointer (some ⟨bb, 0, none⟩)::.int .i64 (o : Int)::u15::u16::u17::u18::u19::u20::u21::u22::u23::u24::u25::u26::u27::u28::u29::u30::u31::u32::u33::u34::u35::u36::u37::u38::u39::u40::u41::u42::u43::u44::u45::u46::u47::u48::u49::u50::u51::u52::u53::u54::u55::u56::u57::u58::u59::u60::u61::u62::u63::u64::u65::u66::u67::u68::u69::u70::u71::u72::u73::u74::u75::u76::u77::u78::u79::u80::u81::u82::u83::u84::u85::u86::u87::u88::u89::u90::u91::u92::u93::u94::u95::u96::u97::u98::u99::u100::u101::u102::u103::u104::u105::u106::u107::u108::u109::u110::u111::u112::u113::u114::u115::u116::u117::u118::u119::u120::u121::u122::u123::u124::u125::u126::u127::u128::u129::u130::u131::u132::u133::u134::u135::u136::u137::u138::u139::u140::u141::u142::u143::u144::u145::u146::z147::z148::z149::z150::z151::z152::z153::z154::z155::z156::z157::z158::z159::z160::z161::.bool false::u163::u164::u165::u166::u167::u168::u169::u170::u171::u172::u173::u174::u175::u176::u177::u178::u179::u180::u181::u182::u183::u184::u185::u186::u187::u188::u189::u190::u191::u192::u193::u194::u195::u196::u197::[]), defers := [] } w5) :
    Code.wp Try.prog code_nu27 Q { tmps := List.toArray (u0::.slice (some ⟨g, 0, none⟩) len cap::u2::u3::u4::u5::u6::u7::u8::u9::u10::.int .i64 (i : Int)::.int .i64 (n : Int)::.pointer (some ⟨bb, 0, none⟩)::.int .i64 (o : Int)::u15::u16::u17::u18::u19::u20::u21::u22::u23::u24::u25::u26::u27::u28::u29::u30::u31::u32::u33::u34::u35::u36::u37::u38::u39::u40::u41::u42::u43::u44::u45::u46::u47::u48::u49::u50::u51::u52::u53::u54::u55::u56::u57::u58::u59::u60::u61::u62::u63::u64::u65::u66::u67::u68::u69::u70::u71::u72::u73::u74::u75::u76::u77::u78::u79::u80::u81::u82::u83::u84::u85::u86::u87::u88::u89::u90::u91::u92::u93::u94::u95::u96::u97::u98::u99::u100::u101::u102::u103::u104::u105::u106::u107::u108::u109::u110::u111::u112::u113::u114::u115::u116::u117::u118::u119::u120::u121::u122::u123::u124::u125::u126::u127::u128::u129::u130::u131::u132::u133::u134::u135::u136::u137::u138::u139::u140::u141::u142::u143::u144::u145::u146::u147::u148::u149::u150::u151::u152::u153::u154::u155::u156::u157::u158::u159::u160::u161::u162::u163::u164::u165::u166::u167::u168::u169::u170::u171::u172::u173::u174::u175::u176::u177::u178::u179::u180::u181::u182::u183::u184::u185::u186::u187::u188::u189::u190::u191::u192::u193::u194::u195::u196::u197::[]), defers := [] } wr := by
  have HQ := Lib.hid hQ
  clear hQ
  conv => arg 2; whnf
  refine wp_region_flowS 15 (by decide) (by kernel_rfl) (But []) (fun _ _ _ h1 h2 => h1.trans h2 (by simp)) (⟨rfl, rfl, rfl, Nat.le_refl _, fun _ _ _ => rfl⟩) (GV [.int .i64 (o : Int), .int .i64 (q : Int), .int .u8 (p : Int), .int .i64 (n : Int), .int .i64 r3, .bool wd, .slice (some ⟨g, 0, none⟩) len cap, .int .i64 (i : Int), .pointer (some ⟨g, i * 6, none⟩), .agg #[.int .u64 v, .int .u64 m, .int .u64 lo, .int .u64 hi, .int .i64 sl, .int .i64 sh], .agg #[.int .u64 xv, .int .u64 xm, .int .u64 xlo, .int .u64 xhi, .int .i64 xsl, .int .i64 xsh], .int .i64 (n : Int), .int .i64 r2, .bool tk, .bool true]) [[], [(0, 147)], [(1, 148)], [], [(3, 150)], [(4, 151)], [], [], [(6, 153), (7, 154)], [(8, 155)], [], [], [(11, 158)], [(12, 159)], [(2, 149), (5, 152), (9, 156), (10, 157), (13, 160)]] [[(14, .int .i64 (o : Int))], [], [], [(12, .int .i64 (n : Int))], [], [], [(1, .slice (some ⟨g, 0, none⟩) len cap)], [(11, .int .i64 (i : Int))], [], [], [(13, .pointer (some ⟨bb, 0, none⟩))], [(12, .int .i64 (n : Int))], [], [], []] (by kernel_rfl) (by kernel_rfl) (by kernel_rfl) (by kernel_rfl) ?_ (fun _ _ _ _ _ h _ => h) [none, none, none, none, none, none, none, none, none, none, none, none, none, none, none, none, none, none, none, none, none, none, none, none, none, none, none, none, none, none, none, none, none, none, none, none, none, none, none, none, none, none, none, none, none, none, none, none, none, none, none, none, none, none, none, none, none, none, none, none, none, none, none, none, none, none, none, none, none, none, none, none, none, none, none, none, none, none, none, none, none, none, none, none, none, none, none, none, none, none, none, none, none, none, none, none, none, none, none, none, none, none, none, none, none, none, none, none, none, none, none, none, none, none, none, none, none, none, none, none, none, none, none, none, none, none, none, none, none, none, none, none, none, none, none, none, none, none, none, none, none, none, none, none, none, none, none, some 147, some 148, some 149, some 150, some 151, some 152, some 153, some 154, some 155, some 156, some 157, some 158, some 159, some 160, some 161, none, none, none, none, none, none, none, none, none, none, none, none, none, none, none, none, none, none, none, none, none, none, none, none, none, none, none, none, none, none, none, none, none, none, none, none] (by kernel_rfl) (by rfl) ?_ ?_
  · exact ⟨⟨rfl, trivial⟩, trivial, trivial, ⟨rfl, trivial⟩, trivial, trivial, ⟨rfl, trivial⟩, ⟨rfl, trivial⟩, trivial, trivial, ⟨rfl, trivial⟩, ⟨rfl, trivial⟩, trivial, trivial, trivial, trivial⟩
  · simp only [List.take_succ_cons, List.take_zero]
    -- 147
    refine ⟨fun a9 w9 hR hk hf => ?_, ?_⟩
    · simp only [KnowF, FreeF, and_true] at hk hf
      have e14 : a9.tmps[14]?.getD undef = .int .i64 (o : Int) := freeF_ev hf
      exact flow_on (rfl) (flow_run (by go_simp) (But.refl _ _) (GV.of rfl))
    -- 148
    refine ⟨fun a9 w9 hR hk hf => ?_, ?_⟩
    · simp only [KnowF, FreeF, and_true] at hk hf
      have e147 := (hk).ev rfl
      have g0 := H148.out
      exact flow_on (rfl) (flow_run (by go_simp) (But.refl _ _) (GV.of rfl))
    -- 149
    refine ⟨fun a9 w9 hR hk hf => ?_, ?_⟩
    · simp only [KnowF, FreeF, and_true] at hk hf
      have e148 := (hk).ev rfl
      have g0 := H149.out
      exact flow_on (rfl) (flow_run (by go_simp) (But.refl _ _) (GV.of rfl))
    -- 150
    refine ⟨fun a9 w9 hR hk hf => ?_, ?_⟩
    · simp only [KnowF, FreeF, and_true] at hk hf
      have e12 : a9.tmps[12]?.getD undef = .int .i64 (n : Int) := freeF_ev hf
      exact flow_on (rfl) (flow_run (by go_simp) (But.refl _ _) (GV.of rfl))
    -- 151
    refine ⟨fun a9 w9 hR hk hf => ?_, ?_⟩
    · simp only [KnowF, FreeF, and_true] at hk hf
      have e150 := (hk).ev rfl
      have g0 := H151.out
      exact flow_on (rfl) (flow_run (by go_simp) (But.refl _ _) (GV.of rfl))
    -- 152
    refine ⟨fun a9 w9 hR hk hf => ?_, ?_⟩
    · simp only [KnowF, FreeF, and_true] at hk hf
      have e151 := (hk).ev rfl
      have g0 := H152.out
      exact flow_on (rfl) (flow_run (by go_simp) (But.refl _ _) (GV.of rfl))
    -- 153
    refine ⟨fun a9 w9 hR hk hf => ?_, ?_⟩
    · simp only [KnowF, FreeF, and_true] at hk hf
      have e1 : a9.tmps[1]?.getD undef = .slice (some ⟨g, 0, none⟩) len cap := freeF_ev hf
      exact flow_on (rfl) (flow_run (by go_simp) (But.refl _ _) (GV.of rfl))
    -- 154
    refine ⟨fun a9 w9 hR hk hf => ?_, ?_⟩
    · simp only [KnowF, FreeF, and_true] at hk hf
      have e11 : a9.tmps[11]?.getD undef = .int .i64 (i : Int) := freeF_ev hf
      exact flow_on (rfl) (flow_run (by go_simp) (But.refl _ _) (GV.of rfl))
    -- 155
    refine ⟨fun a9 w9 hR hk hf => ?_, ?_⟩
    · simp only [KnowF, FreeF, and_true] at hk hf
      have e153 := (hk.1).ev rfl
      have e154 := (hk.2).ev rfl
      have g0 := HI0.out
      have g1 := HI1.out
      exact flow_on (rfl) (flow_run (by go_simp) (But.refl _ _) (GV.of rfl))
    -- 156
    refine ⟨fun a9 w9 hR hk hf => ?_, ?_⟩
    · simp only [KnowF, FreeF, and_true] at hk hf
      have e155 := (hk).ev rfl
      obtain ⟨f0, f1, f2, f3, f4, f5⟩ := HREC.out w9 hR
      exact flow_on (rfl) (flow_run (by go_simp) (But.refl _ _) (GV.of rfl))
    -- 157
    refine ⟨fun a9 w9 hR hk hf => ?_, ?_⟩
    · simp only [KnowF, FreeF, and_true] at hk hf
      have e13 : a9.tmps[13]?.getD undef = .pointer (some ⟨bb, 0, none⟩) := freeF_ev hf
      have hh := hR.heap HBB.out (by simp)
      have f0 := cl_of hh 0
      have f1 := cl_of hh 1
      have f2 := cl_of hh 2
      have f3 := cl_of hh 3
      have f4 := cl_of hh 4
      have f5 := cl_of hh 5
      simp only [List.getElem?_toArray, List.getElem?_cons_zero, List.getElem?_cons_succ] at f0 f1 f2 f3 f4 f5
      clear hh
      exact flow_on (rfl) (flow_run (by go_simp) (But.refl _ _) (GV.of rfl))
    -- 158
    refine ⟨fun a9 w9 hR hk hf => ?_, ?_⟩
    · simp only [KnowF, FreeF, and_true] at hk hf
      have e12 : a9.tmps[12]?.getD undef = .int .i64 (n : Int) := freeF_ev hf
      exact flow_on (rfl) (flow_run (by go_simp) (But.refl _ _) (GV.of rfl))
    -- 159
    refine ⟨fun a9 w9 hR hk hf => ?_, ?_⟩
    · simp only [KnowF, FreeF, and_true] at hk hf
      have e158 := (hk).ev rfl
      have g0 := H159.out
      exact flow_on (rfl) (flow_run (by go_simp) (But.refl _ _) (GV.of rfl))
    -- 160
    refine ⟨fun a9 w9 hR hk hf => ?_, ?_⟩
    · simp only [KnowF, FreeF, and_true] at hk hf
      have e159 := (hk).ev rfl
      have g0 := H160.out
      exact flow_on (rfl) (flow_run (by go_simp) (But.refl _ _) (GV.of rfl))
    -- 161
    refine ⟨fun a9 w9 hR hk hf => ?_, ?_⟩
    · simp only [KnowF, FreeF, and_true] at hk hf
      have e149 := (hk.1).ev rfl
      have e152 := (hk.2.1).ev rfl
      have e156 := (hk.2.2.1).ev rfl
      have e157 := (hk.2.2.2.1).ev rfl
      have e160 := (hk.2.2.2.2).ev rfl
      exact flow_on (rfl) (flow_call (f := 7) (args := #[.int .u8 (p : Int), .bool wd, .agg #[.int .u64 v, .int .u64 m, .int .u64 lo, .int .u64 hi, .int .i64 sl, .int .i64 sh], .agg #[.int .u64 xv, .int .u64 xm, .int .u64 xlo, .int .u64 xhi, .int .i64 xsl, .int .i64 xsh], .bool tk]) (by go_simp) ((HT.out _).mono (by rintro e w' ⟨rfl, hb⟩; exact ⟨_, rfl, hb, GV.of rfl⟩)))
    exact trivial
  · intro f w5 hb5 hG
    have eL : f 161 = .bool true := hG 14 _ 161 (by decide) rfl rfl _ rfl
    have HB5 := Lib.hid hb5
    clear hG hb5
    simp only [List.drop_succ_cons, List.drop_zero]
    show wpList _ _ _ _ { tmps := List.toArray (u0::.slice (some ⟨g, 0, none⟩) len cap::u2::u3::u4::u5::u6::u7::u8::u9::u10::.int .i64 (i : Int)::.int .i64 (n : Int)::.pointer (some ⟨bb, 0, none⟩)::.int .i64 (o : Int)::u15::u16::u17::u18::u19::u20::u21::u22::u23::u24::u25::u26::u27::u28::u29::u30::u31::u32::u33::u34::u35::u36::u37::u38::u39::u40::u41::u42::u43::u44::u45::u46::u47::u48::u49::u50::u51::u52::u53::u54::u55::u56::u57::u58::u59::u60::u61::u62::u63::u64::u65::u66::u67::u68::u69::u70::u71::u72::u73::u74::u75::u76::u77::u78::u79::u80::u81::u82::u83::u84::u85::u86::u87::u88::u89::u90::u91::u92::u93::u94::u95::u96::u97::u98::u99::u100::u101::u102::u103::u104::u105::u106::u107::u108::u109::u110::u111::u112::u113::u114::u115::u116::u117::u118::u119::u120::u121::u122::u123::u124::u125::u126::u127::u128::u129::u130::u131::u132::u133::u134::u135::u136::u137::u138::u139::u140::u141::u142::u143::u144::u145::u146::f 147::f 148::f 149::f 150::f 151::f 152::f 153::f 154::f 155::f 156::f 157::f 158::f 159::f 160::f 161::u162::u163::u164::u165::u166::u167::u168::u169::u170::u171::u172::u173::u174::u175::u176::u177::u178::u179::u180::u181::u182::u183::u184::u185::u186::u187::u188::u189::u190::u191::u192::u193::u194::u195::u196::u197::[]), defers := [] } w5
    go_wp2_with fail
    exact HQ.out _ _ _ _ _ _ _ _ _ _ _ _ _ _ _ _ HB5.out
noncomputable def code_nu29 : Code := ((Try.f4.body.getD .skip |> regionR 29).getD .skip)
set_option maxRecDepth 100000 in
set_option maxHeartbeats 8000000 in
theorem nu29 (Q : Exit → Act → World → Prop) {wr : World} {g len cap i : Nat} {v m lo hi : Nat} {sl sh : Int} (HI0 : Hid ((0 : Int) ≤ (i : Int))) (HI1 : Hid ((i : Int) < (len : Int))) (HREC : Hid (∀ w9, But [] wr w9 → w9.cell? ⟨g, i * 6, none⟩ = some (.int .u64 v) ∧ w9.cell? ⟨g, i * 6 + 1, none⟩ = some (.int .u64 m) ∧ w9.cell? ⟨g, i * 6 + 2, none⟩ = some (.int .u64 lo) ∧ w9.cell? ⟨g, i * 6 + 3, none⟩ = some (.int .u64 hi) ∧ w9.cell? ⟨g, i * 6 + 4, none⟩ = some (.int .i64 sl) ∧ w9.cell? ⟨g, i * 6 + 5, none⟩ = some (.int .i64 sh))) (HT1 : Hid (∀ w, Calls Try.prog 7 #[.int .u8 1, .bool true, .agg #[.int .u64 v, .int .u64 m, .int .u64 lo, .int .u64 hi, .int .i64 sl, .int .i64 sh], .agg #[.int .u64 v, .int .u64 m, .int .u64 lo, .int .u64 hi, .int .i64 sl, .int .i64 sh], .bool false] w fun e w' => e = .returned (.bool true) ∧ But [] w w')) (HT64 : Hid (∀ w, Calls Try.prog 7 #[.int .u8 64, .bool true, .agg #[.int .u64 v, .int .u64 m, .int .u64 lo, .int .u64 hi, .int .i64 sl, .int .i64 sh], .agg #[.int .u64 v, .int .u64 m, .int .u64 lo, .int .u64 hi, .int .i64 sl, .int .i64 sh], .bool false] w fun e w' => e = .returned (.bool true) ∧ But [] w w')) (HT80 : Hid (∀ w, Calls Try.prog 7 #[.int .u8 80, .bool true, .agg #[.int .u64 v, .int .u64 m, .int .u64 lo, .int .u64 hi, .int .i64 sl, .int .i64 sh], .agg #[.int .u64 v, .int .u64 m, .int .u64 lo, .int .u64 hi, .int .i64 sl, .int .i64 sh], .bool true] w fun e w' => e = .returned (.bool true) ∧ But [] w w')) {u0 u2 u3 u4 u5 u6 u7 u8 u9 u10 u12 u13 u14 u15 u16 u17 u18 u19 u20 u21 u22 u23 u24 u25 u26 u27 u28 u29 u30 u31 u32 u33 u34 u35 u36 u37 u38 u39 u40 u41 u42 u43 u44 u45 u46 u47 u48 u49 u50 u51 u52 u53 u54 u55 u56 u57 u58 u59 u60 u61 u62 u63 u64 u65 u66 u67 u68 u69 u70 u71 u72 u73 u74 u75 u76 u77 u78 u79 u80 u81 u82 u83 u84 u85 u86 u87 u88 u89 u90 u91 u92 u93 u94 u95 u96 u97 u98 u99 u100 u101 u102 u103 u104 u105 u106 u107 u108 u109 u110 u111 u112 u113 u114 u115 u116 u117 u118 u119 u120 u121 u122 u123 u124 u125 u126 u127 u128 u129 u130 u131 u132 u133 u134 u135 u136 u137 u138 u139 u140 u141 u142 u143 u144 u145 u146 u147 u148 u149 u150 u151 u152 u153 u154 u155 u156 u157 u158 u159 u160 u161 u162 u163 u164 u165 u166 u167 u168 u169 u170 u171 u172 u173 u174 u175 u176 u177 u178 u179 u180 u181 u182 u183 u184 u185 u186 u187 u188 u189 u190 u191 u192 u193 u194 u195 u196 u197 : Value} (hQ : ∀ (z163 z164 z165 z166 z167 z168 z169 z170 z171 z172 z173 z174 z175 z176 z177 z178 z179 z180 z181 z182 z183 z184 z185 z186 z187 z188 z189 z190 z191 z192 z193 z194 z195 : Value) (w5 : World), But [] wr w5 → Q .normal { tmps := List.toArray (u0::.slice (some ⟨g, 0, none⟩) len cap::u2::u3::u4::u5::u6::u7::u8::u9::u10::.int .i64 (i : Int)::u12::u13::u14::u15::u16::u17::u18::u19::u20::u21::u22::u23::u24::u25::u26::u27::u28::u29::u30::u31::u32::u33::u34::u35::u36::u37::u38::u39::u40::u41::u42::u43::u44::u45::u46::u47::u48::u49::u50::u51::u52::u53::u54::u55::u56::u57::u58::u59::u60::u61::u62::u63::u64::u65::u66::u67::u68::u69::u70::u71::u72::u73::u74::u75::u76::u77::u78::u79::u80::u81::u82::u83::u84::u85::u86::u87::u88::u89::u90::u91::u92::u93::u94::u95::u96::u97::u98::u99::u100::u101::u102::u103::u104::u105::u106::u107::u108::u109::u110::u111::u112::u113::u114::u115::u116::u117::u118::u119::u120::u121::u122::u123::u124::u125::u126::u127::u128::u129::u130::u131::u132::u133::u134::u135::u136::u137::u138::u139::u140::u141::u142::u143::u144::u145::u146::u147::u148::u149::u150::u151::u152::u153::u154::u155::u156::u157::u158::u159::u160::u161::u162::z163::z164::z165::z166::z167::z168::z169::z170::z171::z172::z173::z174::z175::z176::z177::z178::z179::z180::z181::z182::z183::z184::z185::z186::z187::z188::z189::z190::z191::z192::z193::z194::z195::.bool false::u197::[]), defers := [] } w5) :
    Code.wp Try.prog code_nu29 Q { tmps := List.toArray (u0::.slice (some ⟨g, 0, none⟩) len cap::u2::u3::u4::u5::u6::u7::u8::u9::u10::.int .i64 (i : Int)::u12::u13::u14::u15::u16::u17::u18::u19::u20::u21::u22::u23::u24::u25::u26::u27::u28::u29::u30::u31::u32::u33::u34::u35::u36::u37::u38::u39::u40::u41::u42::u43::u44::u45::u46::u47::u48::u49::u50::u51::u52::u53::u54::u55::u56::u57::u58::u59::u60::u61::u62::u63::u64::u65::u66::u67::u68::u69::u70::u71::u72::u73::u74::u75::u76::u77::u78::u79::u80::u81::u82::u83::u84::u85::u86::u87::u88::u89::u90::u91::u92::u93::u94::u95::u96::u97::u98::u99::u100::u101::u102::u103::u104::u105::u106::u107::u108::u109::u110::u111::u112::u113::u114::u115::u116::u117::u118::u119::u120::u121::u122::u123::u124::u125::u126::u127::u128::u129::u130::u131::u132::u133::u134::u135::u136::u137::u138::u139::u140::u141::u142::u143::u144::u145::u146::u147::u148::u149::u150::u151::u152::u153::u154::u155::u156::u157::u158::u159::u160::u161::u162::u163::u164::u165::u166::u167::u168::u169::u170::u171::u172::u173::u174::u175::u176::u177::u178::u179::u180::u181::u182::u183::u184::u185::u186::u187::u188::u189::u190::u191::u192::u193::u194::u195::u196::u197::[]), defers := [] } wr := by
  have HQ := Lib.hid hQ
  clear hQ
  conv => arg 2; whnf
  refine wp_region_flowS 33 (by decide) (by kernel_rfl) (But []) (fun _ _ _ h1 h2 => h1.trans h2 (by simp)) (⟨rfl, rfl, rfl, Nat.le_refl _, fun _ _ _ => rfl⟩) (GV [.slice (some ⟨g, 0, none⟩) len cap, .int .i64 (i : Int), .pointer (some ⟨g, i * 6, none⟩), .agg #[.int .u64 v, .int .u64 m, .int .u64 lo, .int .u64 hi, .int .i64 sl, .int .i64 sh], .slice (some ⟨g, 0, none⟩) len cap, .int .i64 (i : Int), .pointer (some ⟨g, i * 6, none⟩), .agg #[.int .u64 v, .int .u64 m, .int .u64 lo, .int .u64 hi, .int .i64 sl, .int .i64 sh], .bool true, .bool false, .bool false, .slice (some ⟨g, 0, none⟩) len cap, .int .i64 (i : Int), .pointer (some ⟨g, i * 6, none⟩), .agg #[.int .u64 v, .int .u64 m, .int .u64 lo, .int .u64 hi, .int .i64 sl, .int .i64 sh], .slice (some ⟨g, 0, none⟩) len cap, .int .i64 (i : Int), .pointer (some ⟨g, i * 6, none⟩), .agg #[.int .u64 v, .int .u64 m, .int .u64 lo, .int .u64 hi, .int .i64 sl, .int .i64 sh], .bool true, .bool false, .bool false, .bool false, .slice (some ⟨g, 0, none⟩) len cap, .int .i64 (i : Int), .pointer (some ⟨g, i * 6, none⟩), .agg #[.int .u64 v, .int .u64 m, .int .u64 lo, .int .u64 hi, .int .i64 sl, .int .i64 sh], .slice (some ⟨g, 0, none⟩) len cap, .int .i64 (i : Int), .pointer (some ⟨g, i * 6, none⟩), .agg #[.int .u64 v, .int .u64 m, .int .u64 lo, .int .u64 hi, .int .i64 sl, .int .i64 sh], .bool true, .bool false]) [[], [], [(0, 163), (1, 164)], [(2, 165)], [], [], [(4, 167), (5, 168)], [(6, 169)], [(3, 166), (7, 170)], [(8, 171)], [(9, 172)], [(10, 173)], [(10, 173)], [(10, 173), (11, 174), (12, 175)], [(10, 173), (13, 176)], [(10, 173)], [(10, 173)], [(10, 173), (15, 178), (16, 179)], [(10, 173), (17, 180)], [(10, 173), (14, 177), (18, 181)], [(10, 173), (19, 182)], [(10, 173), (20, 183)], [(21, 184)], [(22, 185)], [(22, 185)], [(22, 185), (23, 186), (24, 187)], [(22, 185), (25, 188)], [(22, 185)], [(22, 185)], [(22, 185), (27, 190), (28, 191)], [(22, 185), (29, 192)], [(22, 185), (26, 189), (30, 193)], [(22, 185), (31, 194)]] [[(1, .slice (some ⟨g, 0, none⟩) len cap)], [(11, .int .i64 (i : Int))], [], [], [(1, .slice (some ⟨g, 0, none⟩) len cap)], [(11, .int .i64 (i : Int))], [], [], [], [], [], [(1, .slice (some ⟨g, 0, none⟩) len cap)], [(11, .int .i64 (i : Int))], [], [], [(1, .slice (some ⟨g, 0, none⟩) len cap)], [(11, .int .i64 (i : Int))], [], [], [], [], [], [], [(1, .slice (some ⟨g, 0, none⟩) len cap)], [(11, .int .i64 (i : Int))], [], [], [(1, .slice (some ⟨g, 0, none⟩) len cap)], [(11, .int .i64 (i : Int))], [], [], [], []] (by kernel_rfl) (by kernel_rfl) (by kernel_rfl) (by kernel_rfl) ?_ (fun _ _ _ _ _ h _ => h) [none, none, none, none, none, none, none, none, none, none, none, none, none, none, none, none, none, none, none, none, none, none, none, none, none, none, none, none, none, none, none, none, none, none, none, none, none, none, none, none, none, none, none, none, none, none, none, none, none, none, none, none, none, none, none, none, none, none, none, none, none, none, none, none, none, none, none, none, none, none, none, none, none, none, none, none, none, none, none, none, none, none, none, none, none, none, none, none, none, none, none, none, none, none, none, none, none, none, none, none, none, none, none, none, none, none, none, none, none, none, none, none, none, none, none, none, none, none, none, none, none, none, none, none, none, none, none, none, none, none, none, none, none, none, none, none, none, none, none, none, none, none, none, none, none, none, none, none, none, none, none, none, none, none, none, none, none, none, none, none, none, none, none, some 163, some 164, some 165, some 166, some 167, some 168, some 169, some 170, some 171, some 172, some 173, some 174, some 175, some 176, some 177, some 178, some 179, some 180, some 181, some 182, some 183, some 184, some 185, some 186, some 187, some 188, some 189, some 190, some 191, some 192, some 193, some 194, some 195, none, none] (by kernel_rfl) (by rfl) ?_ ?_
  · exact ⟨⟨rfl, trivial⟩, ⟨rfl, trivial⟩, trivial, trivial, ⟨rfl, trivial⟩, ⟨rfl, trivial⟩, trivial, trivial, trivial, trivial, trivial, ⟨rfl, trivial⟩, ⟨rfl, trivial⟩, trivial, trivial, ⟨rfl, trivial⟩, ⟨rfl, trivial⟩, trivial, trivial, trivial, trivial, trivial, trivial, ⟨rfl, trivial⟩, ⟨rfl, trivial⟩, trivial, trivial, ⟨rfl, trivial⟩, ⟨rfl, trivial⟩, trivial, trivial, trivial, trivial, trivial⟩
  · simp only [List.take_succ_cons, List.take_zero]
    -- 163
    refine ⟨fun a9 w9 hR hk hf => ?_, ?_⟩
    · simp only [KnowF, FreeF, and_true] at hk hf
      have e1 : a9.tmps[1]?.getD undef = .slice (some ⟨g, 0, none⟩) len cap := freeF_ev hf
      exact flow_on (rfl) (flow_run (by go_simp) (But.refl _ _) (GV.of rfl))
    -- 164
    refine ⟨fun a9 w9 hR hk hf => ?_, ?_⟩
    · simp only [KnowF, FreeF, and_true] at hk hf
      have e11 : a9.tmps[11]?.getD undef = .int .i64 (i : Int) := freeF_ev hf
      exact flow_on (rfl) (flow_run (by go_simp) (But.refl _ _) (GV.of rfl))
    -- 165
    refine ⟨fun a9 w9 hR hk hf => ?_, ?_⟩
    · simp only [KnowF, FreeF, and_true] at hk hf
      have e163 := (hk.1).ev rfl
      have e164 := (hk.2).ev rfl
      have g0 := HI0.out
      have g1 := HI1.out
      exact flow_on (rfl) (flow_run (by go_simp) (But.refl _ _) (GV.of rfl))
    -- 166
    refine ⟨fun a9 w9 hR hk hf => ?_, ?_⟩
    · simp only [KnowF, FreeF, and_true] at hk hf
      have e165 := (hk).ev rfl
      obtain ⟨f0, f1, f2, f3, f4, f5⟩ := HREC.out w9 hR
      exact flow_on (rfl) (flow_run (by go_simp) (But.refl _ _) (GV.of rfl))
    -- 167
    refine ⟨fun a9 w9 hR hk hf => ?_, ?_⟩
    · simp only [KnowF, FreeF, and_true] at hk hf
      have e1 : a9.tmps[1]?.getD undef = .slice (some ⟨g, 0, none⟩) len cap := freeF_ev hf
      exact flow_on (rfl) (flow_run (by go_simp) (But.refl _ _) (GV.of rfl))
    -- 168
    refine ⟨fun a9 w9 hR hk hf => ?_, ?_⟩
    · simp only [KnowF, FreeF, and_true] at hk hf
      have e11 : a9.tmps[11]?.getD undef = .int .i64 (i : Int) := freeF_ev hf
      exact flow_on (rfl) (flow_run (by go_simp) (But.refl _ _) (GV.of rfl))
    -- 169
    refine ⟨fun a9 w9 hR hk hf => ?_, ?_⟩
    · simp only [KnowF, FreeF, and_true] at hk hf
      have e167 := (hk.1).ev rfl
      have e168 := (hk.2).ev rfl
      have g0 := HI0.out
      have g1 := HI1.out
      exact flow_on (rfl) (flow_run (by go_simp) (But.refl _ _) (GV.of rfl))
    -- 170
    refine ⟨fun a9 w9 hR hk hf => ?_, ?_⟩
    · simp only [KnowF, FreeF, and_true] at hk hf
      have e169 := (hk).ev rfl
      obtain ⟨f0, f1, f2, f3, f4, f5⟩ := HREC.out w9 hR
      exact flow_on (rfl) (flow_run (by go_simp) (But.refl _ _) (GV.of rfl))
    -- 171
    refine ⟨fun a9 w9 hR hk hf => ?_, ?_⟩
    · simp only [KnowF, FreeF, and_true] at hk hf
      have e166 := (hk.1).ev rfl
      have e170 := (hk.2).ev rfl
      exact flow_on (rfl) (flow_call (f := 7) (args := #[.int .u8 1, .bool true, .agg #[.int .u64 v, .int .u64 m, .int .u64 lo, .int .u64 hi, .int .i64 sl, .int .i64 sh], .agg #[.int .u64 v, .int .u64 m, .int .u64 lo, .int .u64 hi, .int .i64 sl, .int .i64 sh], .bool false]) (by go_simp) ((HT1.out _).mono (by rintro e w' ⟨rfl, hb⟩; exact ⟨_, rfl, hb, GV.of rfl⟩)))
    -- 172
    refine ⟨fun a9 w9 hR hk hf => ?_, ?_⟩
    · simp only [KnowF, FreeF, and_true] at hk hf
      have e171 := (hk).ev rfl
      exact flow_on (rfl) (flow_run (by go_simp) (But.refl _ _) (GV.of rfl))
    -- 173
    refine ⟨fun a9 w9 hR hk hf => ?_, ?_⟩
    · simp only [KnowF, FreeF, and_true] at hk hf
      have e172 := (hk).ev rfl
      exact flow_on (rfl) (flow_run (by go_simp) (But.refl _ _) (GV.of rfl))
    -- 174
    refine ⟨fun a9 w9 hR hk hf => ?_, ?_⟩
    · simp only [KnowF, FreeF, and_true] at hk hf
      have hgd := (hk).eval (v := .bool false) rfl
      have e1 : a9.tmps[1]?.getD undef = .slice (some ⟨g, 0, none⟩) len cap := freeF_ev hf
      exact flow_on (wanted_at (j := 10) (b := false) (s := 173) rfl rfl hgd) (flow_run (by go_simp) (But.refl _ _) (GV.of rfl))
    -- 175
    refine ⟨fun a9 w9 hR hk hf => ?_, ?_⟩
    · simp only [KnowF, FreeF, and_true] at hk hf
      have hgd := (hk).eval (v := .bool false) rfl
      have e11 : a9.tmps[11]?.getD undef = .int .i64 (i : Int) := freeF_ev hf
      exact flow_on (wanted_at (j := 10) (b := false) (s := 173) rfl rfl hgd) (flow_run (by go_simp) (But.refl _ _) (GV.of rfl))
    -- 176
    refine ⟨fun a9 w9 hR hk hf => ?_, ?_⟩
    · simp only [KnowF, FreeF, and_true] at hk hf
      have hgd := (hk.1).eval (v := .bool false) rfl
      have e174 := (hk.2.1).ev rfl
      have e175 := (hk.2.2).ev rfl
      have g0 := HI0.out
      have g1 := HI1.out
      exact flow_on (wanted_at (j := 10) (b := false) (s := 173) rfl rfl hgd) (flow_run (by go_simp) (But.refl _ _) (GV.of rfl))
    -- 177
    refine ⟨fun a9 w9 hR hk hf => ?_, ?_⟩
    · simp only [KnowF, FreeF, and_true] at hk hf
      have hgd := (hk.1).eval (v := .bool false) rfl
      have e176 := (hk.2).ev rfl
      obtain ⟨f0, f1, f2, f3, f4, f5⟩ := HREC.out w9 hR
      exact flow_on (wanted_at (j := 10) (b := false) (s := 173) rfl rfl hgd) (flow_run (by go_simp) (But.refl _ _) (GV.of rfl))
    -- 178
    refine ⟨fun a9 w9 hR hk hf => ?_, ?_⟩
    · simp only [KnowF, FreeF, and_true] at hk hf
      have hgd := (hk).eval (v := .bool false) rfl
      have e1 : a9.tmps[1]?.getD undef = .slice (some ⟨g, 0, none⟩) len cap := freeF_ev hf
      exact flow_on (wanted_at (j := 10) (b := false) (s := 173) rfl rfl hgd) (flow_run (by go_simp) (But.refl _ _) (GV.of rfl))
    -- 179
    refine ⟨fun a9 w9 hR hk hf => ?_, ?_⟩
    · simp only [KnowF, FreeF, and_true] at hk hf
      have hgd := (hk).eval (v := .bool false) rfl
      have e11 : a9.tmps[11]?.getD undef = .int .i64 (i : Int) := freeF_ev hf
      exact flow_on (wanted_at (j := 10) (b := false) (s := 173) rfl rfl hgd) (flow_run (by go_simp) (But.refl _ _) (GV.of rfl))
    -- 180
    refine ⟨fun a9 w9 hR hk hf => ?_, ?_⟩
    · simp only [KnowF, FreeF, and_true] at hk hf
      have hgd := (hk.1).eval (v := .bool false) rfl
      have e178 := (hk.2.1).ev rfl
      have e179 := (hk.2.2).ev rfl
      have g0 := HI0.out
      have g1 := HI1.out
      exact flow_on (wanted_at (j := 10) (b := false) (s := 173) rfl rfl hgd) (flow_run (by go_simp) (But.refl _ _) (GV.of rfl))
    -- 181
    refine ⟨fun a9 w9 hR hk hf => ?_, ?_⟩
    · simp only [KnowF, FreeF, and_true] at hk hf
      have hgd := (hk.1).eval (v := .bool false) rfl
      have e180 := (hk.2).ev rfl
      obtain ⟨f0, f1, f2, f3, f4, f5⟩ := HREC.out w9 hR
      exact flow_on (wanted_at (j := 10) (b := false) (s := 173) rfl rfl hgd) (flow_run (by go_simp) (But.refl _ _) (GV.of rfl))
    -- 182
    refine ⟨fun a9 w9 hR hk hf => ?_, ?_⟩
    · simp only [KnowF, FreeF, and_true] at hk hf
      have hgd := (hk.1).eval (v := .bool false) rfl
      have e177 := (hk.2.1).ev rfl
      have e181 := (hk.2.2).ev rfl
      exact flow_on (wanted_at (j := 10) (b := false) (s := 173) rfl rfl hgd) (flow_call (f := 7) (args := #[.int .u8 64, .bool true, .agg #[.int .u64 v, .int .u64 m, .int .u64 lo, .int .u64 hi, .int .i64 sl, .int .i64 sh], .agg #[.int .u64 v, .int .u64 m, .int .u64 lo, .int .u64 hi, .int .i64 sl, .int .i64 sh], .bool false]) (by go_simp) ((HT64.out _).mono (by rintro e w' ⟨rfl, hb⟩; exact ⟨_, rfl, hb, GV.of rfl⟩)))
    -- 183
    refine ⟨fun a9 w9 hR hk hf => ?_, ?_⟩
    · simp only [KnowF, FreeF, and_true] at hk hf
      have hgd := (hk.1).eval (v := .bool false) rfl
      have e182 := (hk.2).ev rfl
      exact flow_on (wanted_at (j := 10) (b := false) (s := 173) rfl rfl hgd) (flow_run (by go_simp) (But.refl _ _) (GV.of rfl))
    -- 184
    refine ⟨fun a9 w9 hR hk hf => ?_, ?_⟩
    · simp only [KnowF, FreeF, and_true] at hk hf
      have e173 := (hk.1).ev rfl
      have e183 := (hk.2).ev rfl
      exact flow_on (rfl) (flow_run (by go_simp) (But.refl _ _) (GV.of rfl))
    -- 185
    refine ⟨fun a9 w9 hR hk hf => ?_, ?_⟩
    · simp only [KnowF, FreeF, and_true] at hk hf
      have e184 := (hk).ev rfl
      exact flow_on (rfl) (flow_run (by go_simp) (But.refl _ _) (GV.of rfl))
    -- 186
    refine ⟨fun a9 w9 hR hk hf => ?_, ?_⟩
    · simp only [KnowF, FreeF, and_true] at hk hf
      have hgd := (hk).eval (v := .bool false) rfl
      have e1 : a9.tmps[1]?.getD undef = .slice (some ⟨g, 0, none⟩) len cap := freeF_ev hf
      exact flow_on (wanted_at (j := 22) (b := false) (s := 185) rfl rfl hgd) (flow_run (by go_simp) (But.refl _ _) (GV.of rfl))
    -- 187
    refine ⟨fun a9 w9 hR hk hf => ?_, ?_⟩
    · simp only [KnowF, FreeF, and_true] at hk hf
      have hgd := (hk).eval (v := .bool false) rfl
      have e11 : a9.tmps[11]?.getD undef = .int .i64 (i : Int) := freeF_ev hf
      exact flow_on (wanted_at (j := 22) (b := false) (s := 185) rfl rfl hgd) (flow_run (by go_simp) (But.refl _ _) (GV.of rfl))
    -- 188
    refine ⟨fun a9 w9 hR hk hf => ?_, ?_⟩
    · simp only [KnowF, FreeF, and_true] at hk hf
      have hgd := (hk.1).eval (v := .bool false) rfl
      have e186 := (hk.2.1).ev rfl
      have e187 := (hk.2.2).ev rfl
      have g0 := HI0.out
      have g1 := HI1.out
      exact flow_on (wanted_at (j := 22) (b := false) (s := 185) rfl rfl hgd) (flow_run (by go_simp) (But.refl _ _) (GV.of rfl))
    -- 189
    refine ⟨fun a9 w9 hR hk hf => ?_, ?_⟩
    · simp only [KnowF, FreeF, and_true] at hk hf
      have hgd := (hk.1).eval (v := .bool false) rfl
      have e188 := (hk.2).ev rfl
      obtain ⟨f0, f1, f2, f3, f4, f5⟩ := HREC.out w9 hR
      exact flow_on (wanted_at (j := 22) (b := false) (s := 185) rfl rfl hgd) (flow_run (by go_simp) (But.refl _ _) (GV.of rfl))
    -- 190
    refine ⟨fun a9 w9 hR hk hf => ?_, ?_⟩
    · simp only [KnowF, FreeF, and_true] at hk hf
      have hgd := (hk).eval (v := .bool false) rfl
      have e1 : a9.tmps[1]?.getD undef = .slice (some ⟨g, 0, none⟩) len cap := freeF_ev hf
      exact flow_on (wanted_at (j := 22) (b := false) (s := 185) rfl rfl hgd) (flow_run (by go_simp) (But.refl _ _) (GV.of rfl))
    -- 191
    refine ⟨fun a9 w9 hR hk hf => ?_, ?_⟩
    · simp only [KnowF, FreeF, and_true] at hk hf
      have hgd := (hk).eval (v := .bool false) rfl
      have e11 : a9.tmps[11]?.getD undef = .int .i64 (i : Int) := freeF_ev hf
      exact flow_on (wanted_at (j := 22) (b := false) (s := 185) rfl rfl hgd) (flow_run (by go_simp) (But.refl _ _) (GV.of rfl))
    -- 192
    refine ⟨fun a9 w9 hR hk hf => ?_, ?_⟩
    · simp only [KnowF, FreeF, and_true] at hk hf
      have hgd := (hk.1).eval (v := .bool false) rfl
      have e190 := (hk.2.1).ev rfl
      have e191 := (hk.2.2).ev rfl
      have g0 := HI0.out
      have g1 := HI1.out
      exact flow_on (wanted_at (j := 22) (b := false) (s := 185) rfl rfl hgd) (flow_run (by go_simp) (But.refl _ _) (GV.of rfl))
    -- 193
    refine ⟨fun a9 w9 hR hk hf => ?_, ?_⟩
    · simp only [KnowF, FreeF, and_true] at hk hf
      have hgd := (hk.1).eval (v := .bool false) rfl
      have e192 := (hk.2).ev rfl
      obtain ⟨f0, f1, f2, f3, f4, f5⟩ := HREC.out w9 hR
      exact flow_on (wanted_at (j := 22) (b := false) (s := 185) rfl rfl hgd) (flow_run (by go_simp) (But.refl _ _) (GV.of rfl))
    -- 194
    refine ⟨fun a9 w9 hR hk hf => ?_, ?_⟩
    · simp only [KnowF, FreeF, and_true] at hk hf
      have hgd := (hk.1).eval (v := .bool false) rfl
      have e189 := (hk.2.1).ev rfl
      have e193 := (hk.2.2).ev rfl
      exact flow_on (wanted_at (j := 22) (b := false) (s := 185) rfl rfl hgd) (flow_call (f := 7) (args := #[.int .u8 80, .bool true, .agg #[.int .u64 v, .int .u64 m, .int .u64 lo, .int .u64 hi, .int .i64 sl, .int .i64 sh], .agg #[.int .u64 v, .int .u64 m, .int .u64 lo, .int .u64 hi, .int .i64 sl, .int .i64 sh], .bool true]) (by go_simp) ((HT80.out _).mono (by rintro e w' ⟨rfl, hb⟩; exact ⟨_, rfl, hb, GV.of rfl⟩)))
    -- 195
    refine ⟨fun a9 w9 hR hk hf => ?_, ?_⟩
    · simp only [KnowF, FreeF, and_true] at hk hf
      have hgd := (hk.1).eval (v := .bool false) rfl
      have e194 := (hk.2).ev rfl
      exact flow_on (wanted_at (j := 22) (b := false) (s := 185) rfl rfl hgd) (flow_run (by go_simp) (But.refl _ _) (GV.of rfl))
    exact trivial
  · intro f w5 hb5 hG
    have eL185 : f 185 = .bool false := hG 22 _ 185 (by decide) rfl rfl _ rfl
    have eL195 : f 195 = .bool false := hG 32 _ 195 (by decide) rfl rfl _ rfl
    have HB5 := Lib.hid hb5
    clear hG hb5
    simp only [List.drop_succ_cons, List.drop_zero]
    show wpList _ _ _ _ { tmps := List.toArray (u0::.slice (some ⟨g, 0, none⟩) len cap::u2::u3::u4::u5::u6::u7::u8::u9::u10::.int .i64 (i : Int)::u12::u13::u14::u15::u16::u17::u18::u19::u20::u21::u22::u23::u24::u25::u26::u27::u28::u29::u30::u31::u32::u33::u34::u35::u36::u37::u38::u39::u40::u41::u42::u43::u44::u45::u46::u47::u48::u49::u50::u51::u52::u53::u54::u55::u56::u57::u58::u59::u60::u61::u62::u63::u64::u65::u66::u67::u68::u69::u70::u71::u72::u73::u74::u75::u76::u77::u78::u79::u80::u81::u82::u83::u84::u85::u86::u87::u88::u89::u90::u91::u92::u93::u94::u95::u96::u97::u98::u99::u100::u101::u102::u103::u104::u105::u106::u107::u108::u109::u110::u111::u112::u113::u114::u115::u116::u117::u118::u119::u120::u121::u122::u123::u124::u125::u126::u127::u128::u129::u130::u131::u132::u133::u134::u135::u136::u137::u138::u139::u140::u141::u142::u143::u144::u145::u146::u147::u148::u149::u150::u151::u152::u153::u154::u155::u156::u157::u158::u159::u160::u161::u162::f 163::f 164::f 165::f 166::f 167::f 168::f 169::f 170::f 171::f 172::f 173::f 174::f 175::f 176::f 177::f 178::f 179::f 180::f 181::f 182::f 183::f 184::f 185::f 186::f 187::f 188::f 189::f 190::f 191::f 192::f 193::f 194::f 195::u196::u197::[]), defers := [] } w5
    go_wp2_with fail
    exact HQ.out _ _ _ _ _ _ _ _ _ _ _ _ _ _ _ _ _ _ _ _ _ _ _ _ _ _ _ _ _ _ _ _ _ _ HB5.out
end Go.Proofs.Ytmbmmcippglfoaa.M
