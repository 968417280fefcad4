/-
  CellBack's statements by themselves (printed by mkcback.py).
-/
import Derived.Test.YtmaeiifhmngllaaBackQl
import Derived.Test.YtmaeiifhmngllaaFlowG
namespace Go.Proofs.Ytmaeiifhmngllaa.M
open Go.RowKit Go.Shelf
set_option linter.unusedVariables false
set_option linter.unusedSectionVars false
set_option linter.unusedSimpArgs false
noncomputable def code_cbk26 : Code := ((Try.f6.body.getD .skip |> regionOf5 26).getD .skip)
set_option maxRecDepth 100000 in
set_option maxHeartbeats 8000000 in
theorem cbk26 (Q : Exit → Act → World → Prop) {wr : World} {b6 g n c : Nat} {x k wd rg of_ : Int} (H6 : Hid (wr.heap[b6]? = some (.cells #[.int .u8 k, .int .u64 wd, .int .i64 rg, .int .i64 of_] 33))) (HX : Hid (wr.cell? ⟨g, 0, none⟩ = some (.int .u8 x))) (HN : Hid ((0 : Int) < n)) (HW : Hid (IntKind.u8.wrap wd = x)) {u0 u2 u3 u4 u5 u7 u8 u9 u10 u11 u12 u13 u14 u15 u16 u17 u20 u21 u22 u23 u24 u25 u26 u27 u28 u29 u30 u31 u32 u33 u34 u35 u36 u37 u38 u39 u40 u41 u42 u43 u44 u45 u46 u47 u48 u49 u50 u51 u52 u53 u54 u55 u56 u57 u58 u59 u60 u61 u62 u63 u64 u65 u66 u67 u68 u69 u70 u71 u72 u73 u74 u75 u76 u77 u78 u79 u80 u81 u82 u83 u84 u85 u86 u87 u88 u89 u90 u91 u92 u93 u94 u95 u96 u97 u98 u99 u100 u101 u102 u103 u104 u105 u106 u107 u108 u109 u110 u111 u112 u113 u114 u115 u116 u117 u118 u119 u120 u121 u122 u123 u124 u125 u126 u127 u128 u129 u130 u131 u132 u133 u134 u135 u136 u137 u138 u139 u140 u141 u142 u143 u144 u145 u146 u147 u148 u149 u150 u151 u152 u153 u154 u155 u156 u157 u158 u159 u160 u161 u162 u163 u164 u165 u166 u167 u168 u169 u170 u171 u172 u173 u174 u175 u176 u177 u178 u179 u180 u181 u182 u183 u184 u185 u186 u187 u188 u189 u190 : Value} (hQ : ∀ (z138 z139 z140 z141 z142 z143 z144 z145 z146 z147 z148 z149 z150 z151 z152 z153 : Value) (w5 : World), But [] wr w5 → Q .normal { tmps := List.toArray (u0 :: .int .i64 (n : Int) :: u2 :: u3 :: u4 :: u5 :: .pointer (some ⟨b6, 0, none⟩) :: u7 :: u8 :: u9 :: u10 :: u11 :: u12 :: u13 :: u14 :: u15 :: u16 :: u17 :: .slice (some ⟨g, 0, none⟩) n c :: .int .i64 0 :: u20 :: u21 :: u22 :: u23 :: u24 :: u25 :: u26 :: u27 :: u28 :: u29 :: u30 :: u31 :: u32 :: u33 :: u34 :: u35 :: u36 :: u37 :: u38 :: u39 :: u40 :: u41 :: u42 :: u43 :: u44 :: u45 :: u46 :: u47 :: u48 :: u49 :: u50 :: u51 :: u52 :: u53 :: u54 :: u55 :: u56 :: u57 :: u58 :: u59 :: u60 :: u61 :: u62 :: u63 :: u64 :: u65 :: u66 :: u67 :: u68 :: u69 :: u70 :: u71 :: u72 :: u73 :: u74 :: u75 :: u76 :: u77 :: u78 :: u79 :: u80 :: u81 :: u82 :: u83 :: u84 :: u85 :: u86 :: u87 :: u88 :: u89 :: u90 :: u91 :: u92 :: u93 :: u94 :: u95 :: u96 :: u97 :: u98 :: u99 :: u100 :: u101 :: u102 :: u103 :: u104 :: u105 :: u106 :: u107 :: u108 :: u109 :: u110 :: u111 :: u112 :: u113 :: u114 :: u115 :: u116 :: u117 :: u118 :: u119 :: u120 :: u121 :: u122 :: u123 :: u124 :: u125 :: u126 :: u127 :: u128 :: u129 :: u130 :: u131 :: u132 :: u133 :: u134 :: u135 :: u136 :: u137 :: z138 :: z139 :: z140 :: z141 :: z142 :: z143 :: z144 :: z145 :: z146 :: z147 :: z148 :: z149 :: z150 :: z151 :: z152 :: z153 :: .bool false :: u155 :: u156 :: u157 :: u158 :: u159 :: u160 :: u161 :: u162 :: u163 :: u164 :: u165 :: u166 :: u167 :: u168 :: u169 :: u170 :: u171 :: u172 :: u173 :: u174 :: u175 :: u176 :: u177 :: u178 :: u179 :: u180 :: u181 :: u182 :: u183 :: u184 :: u185 :: u186 :: u187 :: u188 :: u189 :: u190 :: []), defers := [] } w5) :
    Code.wp Try.prog code_cbk26 Q { tmps := List.toArray (u0 :: .int .i64 (n : Int) :: u2 :: u3 :: u4 :: u5 :: .pointer (some ⟨b6, 0, none⟩) :: u7 :: u8 :: u9 :: u10 :: u11 :: u12 :: u13 :: u14 :: u15 :: u16 :: u17 :: .slice (some ⟨g, 0, none⟩) n c :: .int .i64 0 :: u20 :: u21 :: u22 :: u23 :: u24 :: u25 :: u26 :: u27 :: u28 :: u29 :: u30 :: u31 :: u32 :: u33 :: u34 :: u35 :: u36 :: u37 :: u38 :: u39 :: u40 :: u41 :: u42 :: u43 :: u44 :: u45 :: u46 :: u47 :: u48 :: u49 :: u50 :: u51 :: u52 :: u53 :: u54 :: u55 :: u56 :: u57 :: u58 :: u59 :: u60 :: u61 :: u62 :: u63 :: u64 :: u65 :: u66 :: u67 :: u68 :: u69 :: u70 :: u71 :: u72 :: u73 :: u74 :: u75 :: u76 :: u77 :: u78 :: u79 :: u80 :: u81 :: u82 :: u83 :: u84 :: u85 :: u86 :: u87 :: u88 :: u89 :: u90 :: u91 :: u92 :: u93 :: u94 :: u95 :: u96 :: u97 :: u98 :: u99 :: u100 :: u101 :: u102 :: u103 :: u104 :: u105 :: u106 :: u107 :: u108 :: u109 :: u110 :: u111 :: u112 :: u113 :: u114 :: u115 :: u116 :: u117 :: u118 :: u119 :: u120 :: u121 :: u122 :: u123 :: u124 :: u125 :: u126 :: u127 :: u128 :: u129 :: u130 :: u131 :: u132 :: u133 :: u134 :: u135 :: u136 :: u137 :: u138 :: u139 :: u140 :: u141 :: u142 :: u143 :: u144 :: u145 :: u146 :: u147 :: u148 :: u149 :: u150 :: u151 :: u152 :: u153 :: u154 :: u155 :: u156 :: u157 :: u158 :: u159 :: u160 :: u161 :: u162 :: u163 :: u164 :: u165 :: u166 :: u167 :: u168 :: u169 :: u170 :: u171 :: u172 :: u173 :: u174 :: u175 :: u176 :: u177 :: u178 :: u179 :: u180 :: u181 :: u182 :: u183 :: u184 :: u185 :: u186 :: u187 :: u188 :: u189 :: u190 :: []), defers := [] } wr := by
  have HQ := Lib.hid hQ
  clear hQ
  conv => arg 2; whnf
  refine wp_region_flowS 16 (by decide) (by kernel_rfl) (But []) (fun _ _ _ h1 h2 => h1.trans h2 (by simp)) (⟨rfl, rfl, rfl, Nat.le_refl _, fun _ _ _ => rfl⟩) (GV [.int .i64 0, .bool false, .bool false, .slice (some ⟨g, 0, none⟩) n c, .int .i64 (n : Int), .int .i64 (n : Int), .bool false, .bool false, .bool false, .slice (some ⟨g, 0, none⟩) n c, .pointer (some ⟨g, 0, none⟩), .int .u8 x, .pointer (some ⟨b6, 1, none⟩), .int .u64 wd, .int .u8 x, .bool false]) [[], [(0, 138)], [(1, 139)], [(2, 140)], [(2, 140), (3, 141)], [(2, 140)], [(2, 140), (4, 142), (5, 143)], [(2, 140), (6, 144)], [(7, 145)], [(8, 146)], [(8, 146), (9, 147)], [(8, 146), (10, 148)], [(8, 146)], [(8, 146), (12, 150)], [(8, 146), (13, 151)], [(8, 146), (11, 149), (14, 152)]] [[(19, .int .i64 0)], [], [], [(18, .slice (some ⟨g, 0, none⟩) n c)], [], [(1, .int .i64 (n : Int))], [], [], [], [(18, .slice (some ⟨g, 0, none⟩) n c)], [], [], [(6, .pointer (some ⟨b6, 0, none⟩))], [], [], []] (by kernel_rfl) (by kernel_rfl) (by kernel_rfl) (by kernel_rfl) ?_ (fun _ _ _ _ _ h _ => h) [none, none, none, none, none, none, none, none, none, none, none, none, none, none, none, none, none, none, none, none, none, none, none, none, none, none, none, none, none, none, none, none, none, none, none, none, none, none, none, none, none, none, none, none, none, none, none, none, none, none, none, none, none, none, none, none, none, none, none, none, none, none, none, none, none, none, none, none, none, none, none, none, none, none, none, none, none, none, none, none, none, none, none, none, none, none, none, none, none, none, none, none, none, none, none, none, none, none, none, none, none, none, none, none, none, none, none, none, none, none, none, none, none, none, none, none, none, none, none, none, none, none, none, none, none, none, none, none, none, none, none, none, none, none, none, none, none, none, some 138, some 139, some 140, some 141, some 142, some 143, some 144, some 145, some 146, some 147, some 148, some 149, some 150, some 151, some 152, some 153, none, none, none, none, none, none, none, none, none, none, none, none, none, none, none, none, none, none, none, none, none, none, none, none, none, none, none, none, none, none, none, none, none, none, none, none, none] (by kernel_rfl) (by rfl) ?_ ?_
  · exact ⟨⟨rfl, trivial⟩, trivial, trivial, ⟨rfl, trivial⟩, trivial, ⟨rfl, trivial⟩, trivial, trivial, trivial, ⟨rfl, trivial⟩, trivial, trivial, ⟨rfl, trivial⟩, trivial, trivial, trivial, trivial⟩
  · simp only [List.take_succ_cons, List.take_zero]
    -- 138
    refine ⟨fun a9 w9 hR hk hf => ?_, ?_⟩
    · simp only [KnowF, FreeF, and_true] at hk hf
      have e19 : a9.tmps[19]?.getD undef = .int .i64 0 := freeF_ev hf
      exact flow_on (rfl) (flow_run (v := .int .i64 0) (by go_simp) (But.refl _ _) (GV.of rfl))
    -- 139
    refine ⟨fun a9 w9 hR hk hf => ?_, ?_⟩
    · simp only [KnowF, FreeF, and_true] at hk hf
      have e138 := (hk).ev (v := .int .i64 0) rfl
      exact flow_on (rfl) (flow_run (v := .bool false) (by go_simp) (But.refl _ _) (GV.of rfl))
    -- 140
    refine ⟨fun a9 w9 hR hk hf => ?_, ?_⟩
    · simp only [KnowF, FreeF, and_true] at hk hf
      have e139 := (hk).ev (v := .bool false) rfl
      exact flow_on (rfl) (flow_run (v := .bool false) (by go_simp) (But.refl _ _) (GV.of rfl))
    -- 141
    refine ⟨fun a9 w9 hR hk hf => ?_, ?_⟩
    · simp only [KnowF, FreeF, and_true] at hk hf
      have hgd := (hk).eval (v := .bool false) rfl
      have e18 : a9.tmps[18]?.getD undef = .slice (some ⟨g, 0, none⟩) n c := freeF_ev hf
      exact flow_on (wanted_at (j := 2) (b := false) (s := 140) rfl rfl hgd) (flow_run (v := .slice (some ⟨g, 0, none⟩) n c) (by go_simp) (But.refl _ _) (GV.of rfl))
    -- 142
    refine ⟨fun a9 w9 hR hk hf => ?_, ?_⟩
    · simp only [KnowF, FreeF, and_true] at hk hf
      have hgd := (hk.1).eval (v := .bool false) rfl
      have e141 := (hk.2).ev (v := .slice (some ⟨g, 0, none⟩) n c) rfl
      exact flow_on (wanted_at (j := 2) (b := false) (s := 140) rfl rfl hgd) (flow_run (v := .int .i64 (n : Int)) (by go_simp) (But.refl _ _) (GV.of rfl))
    -- 143
    refine ⟨fun a9 w9 hR hk hf => ?_, ?_⟩
    · simp only [KnowF, FreeF, and_true] at hk hf
      have hgd := (hk).eval (v := .bool false) rfl
      have e1 : a9.tmps[1]?.getD undef = .int .i64 (n : Int) := freeF_ev hf
      exact flow_on (wanted_at (j := 2) (b := false) (s := 140) rfl rfl hgd) (flow_run (v := .int .i64 (n : Int)) (by go_simp) (But.refl _ _) (GV.of rfl))
    -- 144
    refine ⟨fun a9 w9 hR hk hf => ?_, ?_⟩
    · simp only [KnowF, FreeF, and_true] at hk hf
      have hgd := (hk.1).eval (v := .bool false) rfl
      have e142 := (hk.2.1).ev (v := .int .i64 (n : Int)) rfl
      have e143 := (hk.2.2).ev (v := .int .i64 (n : Int)) rfl
      exact flow_on (wanted_at (j := 2) (b := false) (s := 140) rfl rfl hgd) (flow_run (v := .bool false) (by go_simp) (But.refl _ _) (GV.of rfl))
    -- 145
    refine ⟨fun a9 w9 hR hk hf => ?_, ?_⟩
    · simp only [KnowF, FreeF, and_true] at hk hf
      have e140 := (hk.1).ev (v := .bool false) rfl
      have e144 := (hk.2).ev (v := .bool false) rfl
      exact flow_on (rfl) (flow_run (v := .bool false) (by go_simp) (But.refl _ _) (GV.of rfl))
    -- 146
    refine ⟨fun a9 w9 hR hk hf => ?_, ?_⟩
    · simp only [KnowF, FreeF, and_true] at hk hf
      have e145 := (hk).ev (v := .bool false) rfl
      exact flow_on (rfl) (flow_run (v := .bool false) (by go_simp) (But.refl _ _) (GV.of rfl))
    -- 147
    refine ⟨fun a9 w9 hR hk hf => ?_, ?_⟩
    · simp only [KnowF, FreeF, and_true] at hk hf
      have hgd := (hk).eval (v := .bool false) rfl
      have e18 : a9.tmps[18]?.getD undef = .slice (some ⟨g, 0, none⟩) n c := freeF_ev hf
      exact flow_on (wanted_at (j := 8) (b := false) (s := 146) rfl rfl hgd) (flow_run (v := .slice (some ⟨g, 0, none⟩) n c) (by go_simp) (But.refl _ _) (GV.of rfl))
    -- 148
    refine ⟨fun a9 w9 hR hk hf => ?_, ?_⟩
    · simp only [KnowF, FreeF, and_true] at hk hf
      have hgd := (hk.1).eval (v := .bool false) rfl
      have e147 := (hk.2).ev (v := .slice (some ⟨g, 0, none⟩) n c) rfl
      have g1 := HN.out
      have g2 : 0 < n := by omega
      have g3 : n ≠ 0 := by omega
      exact flow_on (wanted_at (j := 8) (b := false) (s := 146) rfl rfl hgd) (flow_run (v := .pointer (some ⟨g, 0, none⟩)) (by go_simp) (But.refl _ _) (GV.of rfl))
    -- 149
    refine ⟨fun a9 w9 hR hk hf => ?_, ?_⟩
    · simp only [KnowF, FreeF, and_true] at hk hf
      have hgd := (hk.1).eval (v := .bool false) rfl
      have e148 := (hk.2).ev (v := .pointer (some ⟨g, 0, none⟩)) rfl
      have f0 := cell_but hR HX.out (by simp)
      exact flow_on (wanted_at (j := 8) (b := false) (s := 146) rfl rfl hgd) (flow_run (v := .int .u8 x) (by go_simp) (But.refl _ _) (GV.of rfl))
    -- 150
    refine ⟨fun a9 w9 hR hk hf => ?_, ?_⟩
    · simp only [KnowF, FreeF, and_true] at hk hf
      have hgd := (hk).eval (v := .bool false) rfl
      have e6 : a9.tmps[6]?.getD undef = .pointer (some ⟨b6, 0, none⟩) := freeF_ev hf
      exact flow_on (wanted_at (j := 8) (b := false) (s := 146) rfl rfl hgd) (flow_run (v := .pointer (some ⟨b6, 1, none⟩)) (by go_simp) (But.refl _ _) (GV.of rfl))
    -- 151
    refine ⟨fun a9 w9 hR hk hf => ?_, ?_⟩
    · simp only [KnowF, FreeF, and_true] at hk hf
      have hgd := (hk.1).eval (v := .bool false) rfl
      have e150 := (hk.2).ev (v := .pointer (some ⟨b6, 1, none⟩)) rfl
      have hh := hR.heap H6.out (by simp)
      have f0 := cl_of hh 0
      have f1 := cl_of hh 1
      have f2 := cl_of hh 2
      have f3 := cl_of hh 3
      simp only [List.getElem?_toArray, List.getElem?_cons_zero, List.getElem?_cons_succ] at f0 f1 f2 f3
      clear hh
      exact flow_on (wanted_at (j := 8) (b := false) (s := 146) rfl rfl hgd) (flow_run (v := .int .u64 wd) (by go_simp) (But.refl _ _) (GV.of rfl))
    -- 152
    refine ⟨fun a9 w9 hR hk hf => ?_, ?_⟩
    · simp only [KnowF, FreeF, and_true] at hk hf
      have hgd := (hk.1).eval (v := .bool false) rfl
      have e151 := (hk.2).ev (v := .int .u64 wd) rfl
      have g1 := HW.out
      exact flow_on (wanted_at (j := 8) (b := false) (s := 146) rfl rfl hgd) (flow_run (v := .int .u8 x) (by go_simp) (But.refl _ _) (GV.of rfl))
    -- 153
    refine ⟨fun a9 w9 hR hk hf => ?_, ?_⟩
    · simp only [KnowF, FreeF, and_true] at hk hf
      have hgd := (hk.1).eval (v := .bool false) rfl
      have e149 := (hk.2.1).ev (v := .int .u8 x) rfl
      have e152 := (hk.2.2).ev (v := .int .u8 x) rfl
      exact flow_on (wanted_at (j := 8) (b := false) (s := 146) rfl rfl hgd) (flow_run (v := .bool false) (by go_simp) (But.refl _ _) (GV.of rfl))
    exact trivial
  · intro f w5 hb5 hG
    have e146 : f 146 = .bool false := hG 8 _ 146 (by decide) rfl rfl _ rfl
    have e153 : f 153 = .bool false := hG 15 _ 153 (by decide) rfl rfl _ rfl
    have HB5 := Lib.hid hb5
    clear hG hb5
    simp only [List.drop_succ_cons, List.drop_zero]
    show wpList _ _ _ _ { tmps := List.toArray (u0 :: .int .i64 (n : Int) :: u2 :: u3 :: u4 :: u5 :: .pointer (some ⟨b6, 0, none⟩) :: u7 :: u8 :: u9 :: u10 :: u11 :: u12 :: u13 :: u14 :: u15 :: u16 :: u17 :: .slice (some ⟨g, 0, none⟩) n c :: .int .i64 0 :: u20 :: u21 :: u22 :: u23 :: u24 :: u25 :: u26 :: u27 :: u28 :: u29 :: u30 :: u31 :: u32 :: u33 :: u34 :: u35 :: u36 :: u37 :: u38 :: u39 :: u40 :: u41 :: u42 :: u43 :: u44 :: u45 :: u46 :: u47 :: u48 :: u49 :: u50 :: u51 :: u52 :: u53 :: u54 :: u55 :: u56 :: u57 :: u58 :: u59 :: u60 :: u61 :: u62 :: u63 :: u64 :: u65 :: u66 :: u67 :: u68 :: u69 :: u70 :: u71 :: u72 :: u73 :: u74 :: u75 :: u76 :: u77 :: u78 :: u79 :: u80 :: u81 :: u82 :: u83 :: u84 :: u85 :: u86 :: u87 :: u88 :: u89 :: u90 :: u91 :: u92 :: u93 :: u94 :: u95 :: u96 :: u97 :: u98 :: u99 :: u100 :: u101 :: u102 :: u103 :: u104 :: u105 :: u106 :: u107 :: u108 :: u109 :: u110 :: u111 :: u112 :: u113 :: u114 :: u115 :: u116 :: u117 :: u118 :: u119 :: u120 :: u121 :: u122 :: u123 :: u124 :: u125 :: u126 :: u127 :: u128 :: u129 :: u130 :: u131 :: u132 :: u133 :: u134 :: u135 :: u136 :: u137 :: f 138 :: f 139 :: f 140 :: f 141 :: f 142 :: f 143 :: f 144 :: f 145 :: f 146 :: f 147 :: f 148 :: f 149 :: f 150 :: f 151 :: f 152 :: f 153 :: u154 :: u155 :: u156 :: u157 :: u158 :: u159 :: u160 :: u161 :: u162 :: u163 :: u164 :: u165 :: u166 :: u167 :: u168 :: u169 :: u170 :: u171 :: u172 :: u173 :: u174 :: u175 :: u176 :: u177 :: u178 :: u179 :: u180 :: u181 :: u182 :: u183 :: u184 :: u185 :: u186 :: u187 :: u188 :: u189 :: u190 :: []), defers := [] } w5
    go_wp2_with fail
    exact HQ.out _ _ _ _ _ _ _ _ _ _ _ _ _ _ _ _ _ HB5.out
noncomputable def code_cbk28 : Code := ((Try.f6.body.getD .skip |> regionOf5 28).getD .skip)
set_option maxRecDepth 100000 in
set_option maxHeartbeats 8000000 in
theorem cbk28 (Q : Exit → Act → World → Prop) {wr : World} {b15 : Nat} {x : Int} (H15 : Hid (wr.heap[b15]? = some (.cells #[.int .u8 1, .int .u64 x, .int .i64 0, .int .i64 0] 33))) {u0 u1 u2 u3 u4 u5 u6 u7 u8 u9 u10 u11 u12 u13 u14 u18 u19 u20 u21 u22 u23 u24 u25 u26 u27 u28 u29 u30 u31 u32 u33 u34 u35 u36 u37 u38 u39 u40 u41 u42 u43 u44 u45 u46 u47 u48 u49 u50 u51 u52 u53 u54 u55 u56 u57 u58 u59 u60 u61 u62 u63 u64 u65 u66 u67 u68 u69 u70 u71 u72 u73 u74 u75 u76 u77 u78 u79 u80 u81 u82 u83 u84 u85 u86 u87 u88 u89 u90 u91 u92 u93 u94 u95 u96 u97 u98 u99 u100 u101 u102 u103 u104 u105 u106 u107 u108 u109 u110 u111 u112 u113 u114 u115 u116 u117 u118 u119 u120 u121 u122 u123 u124 u125 u126 u127 u128 u129 u130 u131 u132 u133 u134 u135 u136 u137 u138 u139 u140 u141 u142 u143 u144 u145 u146 u147 u148 u149 u150 u151 u152 u153 u154 u155 u156 u157 u158 u159 u160 u161 u162 u163 u164 u165 u166 u167 u168 u169 u170 u171 u172 u173 u174 u175 u176 u177 u178 u179 u180 u181 u182 u183 u184 u185 u186 u187 u188 u189 u190 : Value} (hQ : ∀ (z155 z156 z157 z158 z159 z160 z161 z162 : Value) (w5 : World), But [] wr w5 → Q .normal { tmps := List.toArray (u0 :: u1 :: u2 :: u3 :: u4 :: u5 :: u6 :: u7 :: .bool true :: u9 :: u10 :: u11 :: u12 :: u13 :: u14 :: .pointer (some ⟨b15, 0, none⟩) :: .int .i64 0 :: .int .u64 x :: u18 :: u19 :: u20 :: u21 :: u22 :: u23 :: u24 :: u25 :: u26 :: u27 :: u28 :: u29 :: u30 :: u31 :: u32 :: u33 :: u34 :: u35 :: u36 :: u37 :: u38 :: u39 :: u40 :: u41 :: u42 :: u43 :: u44 :: u45 :: u46 :: u47 :: u48 :: u49 :: u50 :: u51 :: u52 :: u53 :: u54 :: u55 :: u56 :: u57 :: u58 :: u59 :: u60 :: u61 :: u62 :: u63 :: u64 :: u65 :: u66 :: u67 :: u68 :: u69 :: u70 :: u71 :: u72 :: u73 :: u74 :: u75 :: u76 :: u77 :: u78 :: u79 :: u80 :: u81 :: u82 :: u83 :: u84 :: u85 :: u86 :: u87 :: u88 :: u89 :: u90 :: u91 :: u92 :: u93 :: u94 :: u95 :: u96 :: u97 :: u98 :: u99 :: u100 :: u101 :: u102 :: u103 :: u104 :: u105 :: u106 :: u107 :: u108 :: u109 :: u110 :: u111 :: u112 :: u113 :: u114 :: u115 :: u116 :: u117 :: u118 :: u119 :: u120 :: u121 :: u122 :: u123 :: u124 :: u125 :: u126 :: u127 :: u128 :: u129 :: u130 :: u131 :: u132 :: u133 :: u134 :: u135 :: u136 :: u137 :: u138 :: u139 :: u140 :: u141 :: u142 :: u143 :: u144 :: u145 :: u146 :: u147 :: u148 :: u149 :: u150 :: u151 :: u152 :: u153 :: u154 :: z155 :: z156 :: z157 :: z158 :: z159 :: z160 :: z161 :: z162 :: u163 :: u164 :: u165 :: u166 :: u167 :: u168 :: u169 :: u170 :: u171 :: u172 :: u173 :: u174 :: u175 :: u176 :: u177 :: u178 :: u179 :: u180 :: u181 :: u182 :: u183 :: u184 :: u185 :: u186 :: u187 :: u188 :: u189 :: u190 :: []), defers := [] } w5) :
    Code.wp Try.prog code_cbk28 Q { tmps := List.toArray (u0 :: u1 :: u2 :: u3 :: u4 :: u5 :: u6 :: u7 :: u8 :: u9 :: u10 :: u11 :: u12 :: u13 :: u14 :: .pointer (some ⟨b15, 0, none⟩) :: .int .i64 0 :: .int .u64 x :: u18 :: u19 :: u20 :: u21 :: u22 :: u23 :: u24 :: u25 :: u26 :: u27 :: u28 :: u29 :: u30 :: u31 :: u32 :: u33 :: u34 :: u35 :: u36 :: u37 :: u38 :: u39 :: u40 :: u41 :: u42 :: u43 :: u44 :: u45 :: u46 :: u47 :: u48 :: u49 :: u50 :: u51 :: u52 :: u53 :: u54 :: u55 :: u56 :: u57 :: u58 :: u59 :: u60 :: u61 :: u62 :: u63 :: u64 :: u65 :: u66 :: u67 :: u68 :: u69 :: u70 :: u71 :: u72 :: u73 :: u74 :: u75 :: u76 :: u77 :: u78 :: u79 :: u80 :: u81 :: u82 :: u83 :: u84 :: u85 :: u86 :: u87 :: u88 :: u89 :: u90 :: u91 :: u92 :: u93 :: u94 :: u95 :: u96 :: u97 :: u98 :: u99 :: u100 :: u101 :: u102 :: u103 :: u104 :: u105 :: u106 :: u107 :: u108 :: u109 :: u110 :: u111 :: u112 :: u113 :: u114 :: u115 :: u116 :: u117 :: u118 :: u119 :: u120 :: u121 :: u122 :: u123 :: u124 :: u125 :: u126 :: u127 :: u128 :: u129 :: u130 :: u131 :: u132 :: u133 :: u134 :: u135 :: u136 :: u137 :: u138 :: u139 :: u140 :: u141 :: u142 :: u143 :: u144 :: u145 :: u146 :: u147 :: u148 :: u149 :: u150 :: u151 :: u152 :: u153 :: u154 :: u155 :: u156 :: u157 :: u158 :: u159 :: u160 :: u161 :: u162 :: u163 :: u164 :: u165 :: u166 :: u167 :: u168 :: u169 :: u170 :: u171 :: u172 :: u173 :: u174 :: u175 :: u176 :: u177 :: u178 :: u179 :: u180 :: u181 :: u182 :: u183 :: u184 :: u185 :: u186 :: u187 :: u188 :: u189 :: u190 :: []), defers := [] } wr := by
  have HQ := Lib.hid hQ
  clear hQ
  conv => arg 2; whnf
  refine wp_region_flowS 8 (by decide) (by kernel_rfl) (But []) (fun _ _ _ h1 h2 => h1.trans h2 (by simp)) (⟨rfl, rfl, rfl, Nat.le_refl _, fun _ _ _ => rfl⟩) (GV [.int .i64 0, .bool true, .bool true, .agg #[.int .u8 1, .int .u64 x, .int .i64 0, .int .i64 0], .int .u64 x, .agg #[.int .u8 1, .int .u64 x, .int .i64 0, .int .i64 0], .bool true, .bool true]) [[], [(0, 155)], [(1, 156)], [(2, 157)], [(2, 157)], [(2, 157), (4, 159)], [(2, 157), (3, 158), (5, 160)], [(2, 157), (6, 161)]] [[(16, .int .i64 0)], [], [], [(15, .pointer (some ⟨b15, 0, none⟩))], [(17, .int .u64 x)], [], [], []] (by kernel_rfl) (by kernel_rfl) (by kernel_rfl) (by kernel_rfl) ?_ (fun _ _ _ _ _ h _ => h) [none, none, none, none, none, none, none, none, none, none, none, none, none, none, none, none, none, none, none, none, none, none, none, none, none, none, none, none, none, none, none, none, none, none, none, none, none, none, none, none, none, none, none, none, none, none, none, none, none, none, none, none, none, none, none, none, none, none, none, none, none, none, none, none, none, none, none, none, none, none, none, none, none, none, none, none, none, none, none, none, none, none, none, none, none, none, none, none, none, none, none, none, none, none, none, none, none, none, none, none, none, none, none, none, none, none, none, none, none, none, none, none, none, none, none, none, none, none, none, none, none, none, none, none, none, none, none, none, none, none, none, none, none, none, none, none, none, none, none, none, none, none, none, none, none, none, none, none, none, none, none, none, none, none, none, some 155, some 156, some 157, some 158, some 159, some 160, some 161, some 162, none, none, none, none, none, none, none, none, none, none, none, none, none, none, none, none, none, none, none, none, none, none, none, none, none, none, none, none] (by kernel_rfl) (by rfl) ?_ ?_
  · exact ⟨⟨rfl, trivial⟩, trivial, trivial, ⟨rfl, trivial⟩, ⟨rfl, trivial⟩, trivial, trivial, trivial, trivial⟩
  · simp only [List.take_succ_cons, List.take_zero]
    -- 155
    refine ⟨fun a9 w9 hR hk hf => ?_, ?_⟩
    · simp only [KnowF, FreeF, and_true] at hk hf
      have e16 : a9.tmps[16]?.getD undef = .int .i64 0 := freeF_ev hf
      exact flow_on (rfl) (flow_run (v := .int .i64 0) (by go_simp) (But.refl _ _) (GV.of rfl))
    -- 156
    refine ⟨fun a9 w9 hR hk hf => ?_, ?_⟩
    · simp only [KnowF, FreeF, and_true] at hk hf
      have e155 := (hk).ev (v := .int .i64 0) rfl
      exact flow_on (rfl) (flow_run (v := .bool true) (by go_simp) (But.refl _ _) (GV.of rfl))
    -- 157
    refine ⟨fun a9 w9 hR hk hf => ?_, ?_⟩
    · simp only [KnowF, FreeF, and_true] at hk hf
      have e156 := (hk).ev (v := .bool true) rfl
      exact flow_on (rfl) (flow_run (v := .bool true) (by go_simp) (But.refl _ _) (GV.of rfl))
    -- 158
    refine ⟨fun a9 w9 hR hk hf => ?_, ?_⟩
    · simp only [KnowF, FreeF, and_true] at hk hf
      have hgd := (hk).eval (v := .bool true) rfl
      have e15 : a9.tmps[15]?.getD undef = .pointer (some ⟨b15, 0, none⟩) := freeF_ev hf
      have hh := hR.heap H15.out (by simp)
      have f0 := cl_of hh 0
      have f1 := cl_of hh 1
      have f2 := cl_of hh 2
      have f3 := cl_of hh 3
      simp only [List.getElem?_toArray, List.getElem?_cons_zero, List.getElem?_cons_succ] at f0 f1 f2 f3
      clear hh
      exact flow_on (wanted_at (j := 2) (b := true) (s := 157) rfl rfl hgd) (flow_run (v := .agg #[.int .u8 1, .int .u64 x, .int .i64 0, .int .i64 0]) (by go_simp) (But.refl _ _) (GV.of rfl))
    -- 159
    refine ⟨fun a9 w9 hR hk hf => ?_, ?_⟩
    · simp only [KnowF, FreeF, and_true] at hk hf
      have hgd := (hk).eval (v := .bool true) rfl
      have e17 : a9.tmps[17]?.getD undef = .int .u64 x := freeF_ev hf
      exact flow_on (wanted_at (j := 2) (b := true) (s := 157) rfl rfl hgd) (flow_run (v := .int .u64 x) (by go_simp) (But.refl _ _) (GV.of rfl))
    -- 160
    refine ⟨fun a9 w9 hR hk hf => ?_, ?_⟩
    · simp only [KnowF, FreeF, and_true] at hk hf
      have hgd := (hk.1).eval (v := .bool true) rfl
      have e159 := (hk.2).ev (v := .int .u64 x) rfl
      exact flow_on (wanted_at (j := 2) (b := true) (s := 157) rfl rfl hgd) (flow_call (f := 24) (args := #[.int .u64 x]) (by go_simp) ((word_c x _).mono (by rintro e w' ⟨rfl, hb⟩; exact ⟨_, rfl, hb, GV.of rfl⟩)))
    -- 161
    refine ⟨fun a9 w9 hR hk hf => ?_, ?_⟩
    · simp only [KnowF, FreeF, and_true] at hk hf
      have hgd := (hk.1).eval (v := .bool true) rfl
      have e158 := (hk.2.1).ev (v := .agg #[.int .u8 1, .int .u64 x, .int .i64 0, .int .i64 0]) rfl
      have e160 := (hk.2.2).ev (v := .agg #[.int .u8 1, .int .u64 x, .int .i64 0, .int .i64 0]) rfl
      exact flow_on (wanted_at (j := 2) (b := true) (s := 157) rfl rfl hgd) (flow_run (v := .bool true) (by go_simp) (But.refl _ _) (GV.of rfl))
    -- 162
    refine ⟨fun a9 w9 hR hk hf => ?_, ?_⟩
    · simp only [KnowF, FreeF, and_true] at hk hf
      have e157 := (hk.1).ev (v := .bool true) rfl
      have e161 := (hk.2).ev (v := .bool true) rfl
      exact flow_on (rfl) (flow_run (v := .bool true) (by go_simp) (But.refl _ _) (GV.of rfl))
    exact trivial
  · intro f w5 hb5 hG
    have e162 : f 162 = .bool true := hG 7 _ 162 (by decide) rfl rfl _ rfl
    have HB5 := Lib.hid hb5
    clear hG hb5
    simp only [List.drop_succ_cons, List.drop_zero]
    show wpList _ _ _ _ { tmps := List.toArray (u0 :: u1 :: u2 :: u3 :: u4 :: u5 :: u6 :: u7 :: u8 :: u9 :: u10 :: u11 :: u12 :: u13 :: u14 :: .pointer (some ⟨b15, 0, none⟩) :: .int .i64 0 :: .int .u64 x :: u18 :: u19 :: u20 :: u21 :: u22 :: u23 :: u24 :: u25 :: u26 :: u27 :: u28 :: u29 :: u30 :: u31 :: u32 :: u33 :: u34 :: u35 :: u36 :: u37 :: u38 :: u39 :: u40 :: u41 :: u42 :: u43 :: u44 :: u45 :: u46 :: u47 :: u48 :: u49 :: u50 :: u51 :: u52 :: u53 :: u54 :: u55 :: u56 :: u57 :: u58 :: u59 :: u60 :: u61 :: u62 :: u63 :: u64 :: u65 :: u66 :: u67 :: u68 :: u69 :: u70 :: u71 :: u72 :: u73 :: u74 :: u75 :: u76 :: u77 :: u78 :: u79 :: u80 :: u81 :: u82 :: u83 :: u84 :: u85 :: u86 :: u87 :: u88 :: u89 :: u90 :: u91 :: u92 :: u93 :: u94 :: u95 :: u96 :: u97 :: u98 :: u99 :: u100 :: u101 :: u102 :: u103 :: u104 :: u105 :: u106 :: u107 :: u108 :: u109 :: u110 :: u111 :: u112 :: u113 :: u114 :: u115 :: u116 :: u117 :: u118 :: u119 :: u120 :: u121 :: u122 :: u123 :: u124 :: u125 :: u126 :: u127 :: u128 :: u129 :: u130 :: u131 :: u132 :: u133 :: u134 :: u135 :: u136 :: u137 :: u138 :: u139 :: u140 :: u141 :: u142 :: u143 :: u144 :: u145 :: u146 :: u147 :: u148 :: u149 :: u150 :: u151 :: u152 :: u153 :: u154 :: f 155 :: f 156 :: f 157 :: f 158 :: f 159 :: f 160 :: f 161 :: f 162 :: u163 :: u164 :: u165 :: u166 :: u167 :: u168 :: u169 :: u170 :: u171 :: u172 :: u173 :: u174 :: u175 :: u176 :: u177 :: u178 :: u179 :: u180 :: u181 :: u182 :: u183 :: u184 :: u185 :: u186 :: u187 :: u188 :: u189 :: u190 :: []), defers := [] } w5
    go_wp2_with fail
    rw [e162]
    exact HQ.out _ _ _ _ _ _ _ _ _ HB5.out
noncomputable def code_cbk16 : Code := ((Try.f6.body.getD .skip |> regionOf5 16).getD .skip)
set_option maxRecDepth 100000 in
set_option maxHeartbeats 8000000 in
theorem cbk16 (Q : Exit → Act → World → Prop) {wr : World} {bd o n : Nat} {off2 many : Int} (hon : o + n ≤ 512) (HD : Hid (wr.cell? ⟨bd, 1, none⟩ = some (.int .i64 off2))) {u2 u3 u4 u5 u6 u7 u8 u9 u10 u11 u12 u15 u16 u17 u18 u19 u20 u21 u22 u23 u24 u25 u26 u27 u28 u29 u30 u31 u32 u33 u34 u35 u36 u37 u38 u39 u40 u41 u42 u43 u44 u45 u46 u47 u48 u49 u50 u51 u52 u53 u54 u55 u56 u57 u58 u59 u60 u61 u62 u63 u64 u65 u66 u67 u68 u69 u70 u71 u72 u73 u74 u75 u76 u77 u78 u79 u80 u81 u82 u83 u84 u85 u86 u87 u88 u89 u90 u91 u92 u93 u94 u95 u96 u97 u98 u99 u100 u101 u102 u103 u104 u105 u106 u107 u108 u109 u110 u111 u112 u113 u114 u115 u116 u117 u118 u119 u120 u121 u122 u123 u124 u125 u126 u127 u128 u129 u130 u131 u132 u133 u134 u135 u136 u137 u138 u139 u140 u141 u142 u143 u144 u145 u146 u147 u148 u149 u150 u151 u152 u153 u154 u155 u156 u157 u158 u159 u160 u161 u162 u163 u164 u165 u166 u167 u168 u169 u170 u171 u172 u173 u174 u175 u176 u177 u178 u179 u180 u181 u182 u183 u184 u185 u186 u187 u188 u189 u190 : Value} (hQ : ∀ (z64 z65 z66 z67 z68 z69 z70 z71 z72 z73 z74 z75 z76 z77 z78 z79 z80 z81 z82 z83 z84 z85 z86 z87 z88 z89 z90 : Value), Q .normal { tmps := List.toArray (.int .i64 (o : Int) :: .int .i64 (n : Int) :: u2 :: u3 :: u4 :: u5 :: u6 :: u7 :: u8 :: u9 :: u10 :: u11 :: u12 :: .pointer (some ⟨bd, 0, none⟩) :: .int .i64 many :: u15 :: u16 :: u17 :: u18 :: u19 :: u20 :: u21 :: u22 :: u23 :: u24 :: u25 :: u26 :: u27 :: u28 :: u29 :: u30 :: u31 :: u32 :: u33 :: u34 :: u35 :: u36 :: u37 :: u38 :: u39 :: u40 :: u41 :: u42 :: u43 :: u44 :: u45 :: u46 :: u47 :: u48 :: u49 :: u50 :: u51 :: u52 :: u53 :: u54 :: u55 :: u56 :: u57 :: u58 :: u59 :: u60 :: u61 :: u62 :: u63 :: z64 :: z65 :: z66 :: z67 :: z68 :: z69 :: z70 :: z71 :: z72 :: z73 :: z74 :: z75 :: z76 :: z77 :: z78 :: z79 :: z80 :: z81 :: z82 :: z83 :: z84 :: z85 :: z86 :: z87 :: z88 :: z89 :: z90 :: .bool (skipB o n off2 many) :: u92 :: u93 :: u94 :: u95 :: u96 :: u97 :: u98 :: u99 :: u100 :: u101 :: u102 :: u103 :: u104 :: u105 :: u106 :: u107 :: u108 :: u109 :: u110 :: u111 :: u112 :: u113 :: u114 :: u115 :: u116 :: u117 :: u118 :: u119 :: u120 :: u121 :: u122 :: u123 :: u124 :: u125 :: u126 :: u127 :: u128 :: u129 :: u130 :: u131 :: u132 :: u133 :: u134 :: u135 :: u136 :: u137 :: u138 :: u139 :: u140 :: u141 :: u142 :: u143 :: u144 :: u145 :: u146 :: u147 :: u148 :: u149 :: u150 :: u151 :: u152 :: u153 :: u154 :: u155 :: u156 :: u157 :: u158 :: u159 :: u160 :: u161 :: u162 :: u163 :: u164 :: u165 :: u166 :: u167 :: u168 :: u169 :: u170 :: u171 :: u172 :: u173 :: u174 :: u175 :: u176 :: u177 :: u178 :: u179 :: u180 :: u181 :: u182 :: u183 :: u184 :: u185 :: u186 :: u187 :: u188 :: u189 :: u190 :: []), defers := [] } wr) :
    Code.wp Try.prog code_cbk16 Q { tmps := List.toArray (.int .i64 (o : Int) :: .int .i64 (n : Int) :: u2 :: u3 :: u4 :: u5 :: u6 :: u7 :: u8 :: u9 :: u10 :: u11 :: u12 :: .pointer (some ⟨bd, 0, none⟩) :: .int .i64 many :: u15 :: u16 :: u17 :: u18 :: u19 :: u20 :: u21 :: u22 :: u23 :: u24 :: u25 :: u26 :: u27 :: u28 :: u29 :: u30 :: u31 :: u32 :: u33 :: u34 :: u35 :: u36 :: u37 :: u38 :: u39 :: u40 :: u41 :: u42 :: u43 :: u44 :: u45 :: u46 :: u47 :: u48 :: u49 :: u50 :: u51 :: u52 :: u53 :: u54 :: u55 :: u56 :: u57 :: u58 :: u59 :: u60 :: u61 :: u62 :: u63 :: u64 :: u65 :: u66 :: u67 :: u68 :: u69 :: u70 :: u71 :: u72 :: u73 :: u74 :: u75 :: u76 :: u77 :: u78 :: u79 :: u80 :: u81 :: u82 :: u83 :: u84 :: u85 :: u86 :: u87 :: u88 :: u89 :: u90 :: u91 :: u92 :: u93 :: u94 :: u95 :: u96 :: u97 :: u98 :: u99 :: u100 :: u101 :: u102 :: u103 :: u104 :: u105 :: u106 :: u107 :: u108 :: u109 :: u110 :: u111 :: u112 :: u113 :: u114 :: u115 :: u116 :: u117 :: u118 :: u119 :: u120 :: u121 :: u122 :: u123 :: u124 :: u125 :: u126 :: u127 :: u128 :: u129 :: u130 :: u131 :: u132 :: u133 :: u134 :: u135 :: u136 :: u137 :: u138 :: u139 :: u140 :: u141 :: u142 :: u143 :: u144 :: u145 :: u146 :: u147 :: u148 :: u149 :: u150 :: u151 :: u152 :: u153 :: u154 :: u155 :: u156 :: u157 :: u158 :: u159 :: u160 :: u161 :: u162 :: u163 :: u164 :: u165 :: u166 :: u167 :: u168 :: u169 :: u170 :: u171 :: u172 :: u173 :: u174 :: u175 :: u176 :: u177 :: u178 :: u179 :: u180 :: u181 :: u182 :: u183 :: u184 :: u185 :: u186 :: u187 :: u188 :: u189 :: u190 :: []), defers := [] } wr := by
  have HQ := Lib.hid hQ
  clear hQ
  have c1 := HD.out
  have hw : wrap64 ((o : Int) + n) = (o : Int) + n := by rw [wrap64]; omega
  conv => arg 2; whnf
  by_cases h1 : off2 < 1099511627776
  · by_cases h2 : -1099511627776 < off2
    · by_cases h3 : many < 1099511627776
      · by_cases h4 : off2 < (o : Int) + n
        · have HS : Hid (skipB o n off2 many = decide ((o : Int) < wrap64 (off2 + many))) := Lib.hid (by unfold skipB; rw [decide_eq_true h1, decide_eq_true h2, decide_eq_true h3, decide_eq_true h4]; rfl)
          rw [HS.out] at HQ
          go_wp2_with fail
          exact HQ.out _ _ _ _ _ _ _ _ _ _ _ _ _ _ _ _ _ _ _ _ _ _ _ _ _ _ _
        · have HS : Hid (skipB o n off2 many = false) := Lib.hid (by unfold skipB; rw [decide_eq_false h4]; simp)
          have h4' : decide (off2 < (o : Int) + n) = false := decide_eq_false h4
          rw [HS.out] at HQ
          clear h4
          go_wp2_with fail
          exact HQ.out _ _ _ _ _ _ _ _ _ _ _ _ _ _ _ _ _ _ _ _ _ _ _ _ _ _ _
      · have HS : Hid (skipB o n off2 many = false) := Lib.hid (by unfold skipB; rw [decide_eq_false h3]; simp)
        have h3' : decide (many < 1099511627776) = false := decide_eq_false h3
        rw [HS.out] at HQ
        clear h3
        go_wp2_with fail
        exact HQ.out _ _ _ _ _ _ _ _ _ _ _ _ _ _ _ _ _ _ _ _ _ _ _ _ _ _ _
    · have HS : Hid (skipB o n off2 many = false) := Lib.hid (by unfold skipB; rw [decide_eq_false h2]; simp)
      have h2' : decide (-1099511627776 < off2) = false := decide_eq_false h2
      rw [HS.out] at HQ
      clear h2
      go_wp2_with fail
      exact HQ.out _ _ _ _ _ _ _ _ _ _ _ _ _ _ _ _ _ _ _ _ _ _ _ _ _ _ _
  · have HS : Hid (skipB o n off2 many = false) := Lib.hid (by unfold skipB; rw [decide_eq_false h1]; simp)
    have h1' : decide (off2 < 1099511627776) = false := decide_eq_false h1
    rw [HS.out] at HQ
    clear h1
    go_wp2_with fail
    exact HQ.out _ _ _ _ _ _ _ _ _ _ _ _ _ _ _ _ _ _ _ _ _ _ _ _ _ _ _
end Go.Proofs.Ytmaeiifhmngllaa.M
