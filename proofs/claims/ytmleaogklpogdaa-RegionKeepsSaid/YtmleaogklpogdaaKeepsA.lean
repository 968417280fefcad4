/-
  'RegionKeeps' tells true: the walk, its head.
-/
import Derived.Test.YtmleaogklpogdaaKeepsB
import Derived.Deep.DeepCutAuto
import Derived.Deep.CutBlock
namespace Go.Proofs.Ytmleaogklpogdaa.M
open Go.RowKit
set_option linter.unusedVariables false
set_option linter.unusedSectionVars false
set_option linter.unusedSimpArgs false
noncomputable def code_k6 : Code := dropSeq 6 (Try.f4.body.getD .skip)
set_option maxRecDepth 100000 in
set_option maxHeartbeats 2000000 in
theorem k6 {w : World} {rows : List (List Value)} {which off : Int} {b : List Value} {a0 a3 : Option Addr} {c0 c3 B b0 : Nat}  {w2 : World} {u4 u5 u6 u7 u8 u9 u10 u12 u13 u14 u15 u16 u17 u18 u19 u20 u21 u22 u23 u24 u25 u26 u27 u28 u29 u30 u31 u32 u33 u34 u35 u36 u37 u38 u39 u40 u41 u42 u43 u44 u45 u46 u47 u48 u49 u50 u51 u52 u53 u54 u55 u56 u57 u58 u59 u60 u61 u62 u63 u64 u65 u66 u67 u68 u69 u70 u71 u72 u73 u74 u75 u76 u77 u78 u79 u80 u81 u82 u83 u84 u85 u86 u87 u88 u89 u90 u91 u92 u93 u94 u95 u96 u97 u98 u99 u100 u101 u102 u103 u104 u105 u106 u107 u108 u109 u110 u111 u112 u113 u114 u115 u116 u117 u118 u119 u120 u121 u122 u123 u124 u125 u126 u127 u128 u129 u130 u131 u132 u133 u134 u135 u136 u137 u138 u139 u140 u141 u142 u143 u144 u145 u146 u147 u148 u149 u150 u151 u152 u153 u154 u155 u156 u157 u158 u159 u160 u161 u162 u163 u164 u165 u166 u167 u168 u169 u170 u171 u172 u173 u174 u175 u176 u177 u178 u179 u180 u181 u182 u183 u184 u185 u186 u187 u188 u189 u190 u191 u192 u193 u194 u195 u196 u197 u198 u199 u200 u201 u202 u203 u204 u205 u206 u207 u208 u209 u210 u211 u212 u213 u214 u215 u216 u217 u218 u219 u220 u221 u222 u223 u224 u225 u226 u227 u228 u229 u230 u231 u232 u233 u234 u235 u236 u237 u238 u239 u240 u241 u242 u243 u244 u245 u246 u247 u248 : Value} (HR : Hid (∀ k, k < rows.length → ∃ ad a' c', a0 = some ad ∧ w.cell? (ad.add k) = some (.slice a' (row rows k).length c') ∧ Sees w (.slice a' (row rows k).length c') (row rows k))) (HB : Hid (Sees w (.slice a3 b.length c3) b)) (HRB : Hid (∀ r ∈ rows, IsBytes r ∧ r.length ≤ 140737488351232)) (HBB : Hid (IsBytes b)) (HO1 : Hid (-9223372036854775808 ≤ off)) (HO2 : Hid (off ≤ 9223372036854775807)) (HW1 : Hid (-9223372036854775808 ≤ which)) (HW2 : Hid (which ≤ 9223372036854775807)) (hlb : b.length ≤ 20000) (h2 : rows.length ≤ 20) (hB1 : w.heap.size ≤ B) (hB2 : w.heap.size ≤ b0) (h3 : ¬ rows.length = 0) (hM2 : Mem w2 w.heap.size B b0 0 []) (hb2 : But [] w w2) :
    Code.wp Try.prog code_k6 (bodyPost Try.prog Try.f4 fun e w' => e = .returned (.bool true) ∧ But [] w w') { tmps := List.toArray (.slice a0 rows.length c0 :: .int .i64 which :: .int .i64 off :: .slice a3 b.length c3 :: u4 :: u5 :: u6 :: u7 :: u8 :: u9 :: u10 :: .pointer (some ⟨B, 0, none⟩) :: u12 :: u13 :: u14 :: u15 :: u16 :: u17 :: u18 :: u19 :: u20 :: u21 :: u22 :: u23 :: u24 :: u25 :: u26 :: u27 :: u28 :: u29 :: u30 :: u31 :: u32 :: u33 :: u34 :: u35 :: u36 :: u37 :: u38 :: u39 :: u40 :: u41 :: u42 :: u43 :: u44 :: u45 :: u46 :: u47 :: u48 :: u49 :: u50 :: u51 :: u52 :: u53 :: u54 :: u55 :: u56 :: u57 :: u58 :: u59 :: u60 :: u61 :: u62 :: u63 :: u64 :: u65 :: u66 :: u67 :: u68 :: u69 :: u70 :: u71 :: u72 :: u73 :: u74 :: u75 :: u76 :: u77 :: u78 :: u79 :: u80 :: u81 :: u82 :: u83 :: u84 :: u85 :: u86 :: u87 :: u88 :: u89 :: u90 :: u91 :: u92 :: u93 :: u94 :: u95 :: u96 :: u97 :: u98 :: u99 :: u100 :: u101 :: u102 :: u103 :: u104 :: u105 :: u106 :: u107 :: u108 :: u109 :: u110 :: u111 :: u112 :: u113 :: u114 :: u115 :: u116 :: u117 :: u118 :: u119 :: u120 :: u121 :: u122 :: u123 :: u124 :: u125 :: u126 :: u127 :: u128 :: u129 :: u130 :: u131 :: u132 :: u133 :: u134 :: u135 :: u136 :: u137 :: u138 :: u139 :: u140 :: u141 :: u142 :: u143 :: u144 :: u145 :: u146 :: u147 :: u148 :: u149 :: u150 :: u151 :: u152 :: u153 :: u154 :: u155 :: u156 :: u157 :: u158 :: u159 :: u160 :: u161 :: u162 :: u163 :: u164 :: u165 :: u166 :: u167 :: u168 :: u169 :: u170 :: u171 :: u172 :: u173 :: u174 :: u175 :: u176 :: u177 :: u178 :: u179 :: u180 :: u181 :: u182 :: u183 :: u184 :: u185 :: u186 :: u187 :: u188 :: u189 :: u190 :: u191 :: u192 :: u193 :: u194 :: u195 :: u196 :: u197 :: u198 :: u199 :: u200 :: u201 :: u202 :: u203 :: u204 :: u205 :: u206 :: u207 :: u208 :: u209 :: u210 :: u211 :: u212 :: u213 :: u214 :: u215 :: u216 :: u217 :: u218 :: u219 :: u220 :: u221 :: u222 :: u223 :: u224 :: u225 :: u226 :: u227 :: u228 :: u229 :: u230 :: u231 :: u232 :: u233 :: u234 :: u235 :: u236 :: u237 :: u238 :: u239 :: u240 :: u241 :: u242 :: u243 :: u244 :: u245 :: u246 :: u247 :: u248 :: []), defers := [] } w2 := by
  conv => arg 2; whnf
  go_upto_block 2 with fail
  go_cut [] (fun wx => ∃ l, Mem wx w.heap.size B b0 rows.length l ∧ Shape l rows.length (row rows) ∧ But [] w wx)
  case first =>
    go_wp2_with fail
    go_loopw [12] (fun i wr => ∃ k : Nat, k ≤ rows.length ∧ i = .int .i64 k ∧ ∃ l, Mem wr w.heap.size B b0 k l ∧ Shape l k (row rows) ∧ But [] w wr) (fun i _ => rows.length - (intOf i).toNat)
    case atStart => exact ⟨0, by omega, rfl, [], hM2, Shape.nil _, hb2⟩
    case round =>
      obtain ⟨k, hk, rfl, l, hM, hS, hbw⟩ := hrel
      clear hM2 hb2
      have HS1 := Lib.hid hS
      clear hS
      by_cases hlt : k < rows.length
      · obtain ⟨ad, a', c', rfl, hc, hs⟩ := HR.out k hlt
        have hcr : wr.cell? (ad.add k) = some (Value.slice a' (row rows k).length c') := cell_but hbw hc (by simp)
        have HS := Lib.hid hs
        have hrk : (row rows k).length ≤ 140737488351232 := (HRB.out _ (row_mem hlt)).2
        clear hc hs
        by_cases h4 : (row rows k).length ≤ 4096
        · have hkm : 0 ≤ (k : Int) % 5 ∧ (k : Int) % 5 < 5 := by omega
          go_wp2_with fail
          refine (make_at ((k : Int) + 1) _ a' _ c' (row rows k) hM rfl (by omega) (HS.out.but hbw (by simp)) (HRB.out _ (row_mem hlt)).1 rfl h4 (by omega) hbw.size).mono ?_
          rintro e w3 ⟨rfl, hb3, c4, sl, hM3⟩
          have hb3' : But [] w w3 := hbw.trans hb3 (fun x hx => .inr (by simp at hx; omega))
          have hS3 : Shape (l ++ [⟨(k : Int) + 1, c4, 1 + (k : Int) % 5, sl, row rows k⟩]) (k + 1) (row rows) := HS1.out.snoc _ rfl rfl rfl
          clear hM hb3 hbw
          dsimp only
          go_wp2_with fail
          go_roundw
          case rel => exact ⟨k + 1, by omega, by go_num, _, hM3, hS3, hb3'⟩
          case measure => simp [intOf]; omega
        · go_wp2_with fail
          go_ret
          exact ⟨rfl, hbw⟩
      · obtain rfl : k = rows.length := by omega
        go_wp2_with fail
        go_meet
        exact ⟨l, hM, HS1.out, hbw⟩
  case rest =>
    obtain ⟨l, hM, hS, hbw⟩ := hcut
    refine (by assumption : ∀ (a : Act) (w1 : World), Code.wp Try.prog _ _ a w1 → _) _ _ ?_
    exact k19 HR HB HRB HBB HO1 HO2 hlb h2 hB1 hB2 HW1 HW2 h3 hS hM hbw
noncomputable def code_k5 : Code := dropSeq 5 (Try.f4.body.getD .skip)
set_option maxRecDepth 100000 in
set_option maxHeartbeats 2000000 in
theorem k5 {w : World} {rows : List (List Value)} {which off : Int} {b : List Value} {a0 a3 : Option Addr} {c0 c3 : Nat}  {w1 : World} {u4 u5 u6 u7 u8 u9 u10 u11 u12 u13 u14 u15 u16 u17 u18 u19 u20 u21 u22 u23 u24 u25 u26 u27 u28 u29 u30 u31 u32 u33 u34 u35 u36 u37 u38 u39 u40 u41 u42 u43 u44 u45 u46 u47 u48 u49 u50 u51 u52 u53 u54 u55 u56 u57 u58 u59 u60 u61 u62 u63 u64 u65 u66 u67 u68 u69 u70 u71 u72 u73 u74 u75 u76 u77 u78 u79 u80 u81 u82 u83 u84 u85 u86 u87 u88 u89 u90 u91 u92 u93 u94 u95 u96 u97 u98 u99 u100 u101 u102 u103 u104 u105 u106 u107 u108 u109 u110 u111 u112 u113 u114 u115 u116 u117 u118 u119 u120 u121 u122 u123 u124 u125 u126 u127 u128 u129 u130 u131 u132 u133 u134 u135 u136 u137 u138 u139 u140 u141 u142 u143 u144 u145 u146 u147 u148 u149 u150 u151 u152 u153 u154 u155 u156 u157 u158 u159 u160 u161 u162 u163 u164 u165 u166 u167 u168 u169 u170 u171 u172 u173 u174 u175 u176 u177 u178 u179 u180 u181 u182 u183 u184 u185 u186 u187 u188 u189 u190 u191 u192 u193 u194 u195 u196 u197 u198 u199 u200 u201 u202 u203 u204 u205 u206 u207 u208 u209 u210 u211 u212 u213 u214 u215 u216 u217 u218 u219 u220 u221 u222 u223 u224 u225 u226 u227 u228 u229 u230 u231 u232 u233 u234 u235 u236 u237 u238 u239 u240 u241 u242 u243 u244 u245 u246 u247 u248 : Value} (HR : Hid (∀ k, k < rows.length → ∃ ad a' c', a0 = some ad ∧ w.cell? (ad.add k) = some (.slice a' (row rows k).length c') ∧ Sees w (.slice a' (row rows k).length c') (row rows k))) (HB : Hid (Sees w (.slice a3 b.length c3) b)) (HRB : Hid (∀ r ∈ rows, IsBytes r ∧ r.length ≤ 140737488351232)) (HBB : Hid (IsBytes b)) (HO1 : Hid (-9223372036854775808 ≤ off)) (HO2 : Hid (off ≤ 9223372036854775807)) (HW1 : Hid (-9223372036854775808 ≤ which)) (HW2 : Hid (which ≤ 9223372036854775807)) (hlb : b.length ≤ 20000) (h2 : rows.length ≤ 20) (h3 : ¬ rows.length = 0) (hb1 : But [] w w1) :
    Code.wp Try.prog code_k5 (bodyPost Try.prog Try.f4 fun e w' => e = .returned (.bool true) ∧ But [] w w') { tmps := List.toArray (.slice a0 rows.length c0 :: .int .i64 which :: .int .i64 off :: .slice a3 b.length c3 :: u4 :: u5 :: u6 :: u7 :: u8 :: u9 :: u10 :: u11 :: u12 :: u13 :: u14 :: u15 :: u16 :: u17 :: u18 :: u19 :: u20 :: u21 :: u22 :: u23 :: u24 :: u25 :: u26 :: u27 :: u28 :: u29 :: u30 :: u31 :: u32 :: u33 :: u34 :: u35 :: u36 :: u37 :: u38 :: u39 :: u40 :: u41 :: u42 :: u43 :: u44 :: u45 :: u46 :: u47 :: u48 :: u49 :: u50 :: u51 :: u52 :: u53 :: u54 :: u55 :: u56 :: u57 :: u58 :: u59 :: u60 :: u61 :: u62 :: u63 :: u64 :: u65 :: u66 :: u67 :: u68 :: u69 :: u70 :: u71 :: u72 :: u73 :: u74 :: u75 :: u76 :: u77 :: u78 :: u79 :: u80 :: u81 :: u82 :: u83 :: u84 :: u85 :: u86 :: u87 :: u88 :: u89 :: u90 :: u91 :: u92 :: u93 :: u94 :: u95 :: u96 :: u97 :: u98 :: u99 :: u100 :: u101 :: u102 :: u103 :: u104 :: u105 :: u106 :: u107 :: u108 :: u109 :: u110 :: u111 :: u112 :: u113 :: u114 :: u115 :: u116 :: u117 :: u118 :: u119 :: u120 :: u121 :: u122 :: u123 :: u124 :: u125 :: u126 :: u127 :: u128 :: u129 :: u130 :: u131 :: u132 :: u133 :: u134 :: u135 :: u136 :: u137 :: u138 :: u139 :: u140 :: u141 :: u142 :: u143 :: u144 :: u145 :: u146 :: u147 :: u148 :: u149 :: u150 :: u151 :: u152 :: u153 :: u154 :: u155 :: u156 :: u157 :: u158 :: u159 :: u160 :: u161 :: u162 :: u163 :: u164 :: u165 :: u166 :: u167 :: u168 :: u169 :: u170 :: u171 :: u172 :: u173 :: u174 :: u175 :: u176 :: u177 :: u178 :: u179 :: u180 :: u181 :: u182 :: u183 :: u184 :: u185 :: u186 :: u187 :: u188 :: u189 :: u190 :: u191 :: u192 :: u193 :: u194 :: u195 :: u196 :: u197 :: u198 :: u199 :: u200 :: u201 :: u202 :: u203 :: u204 :: u205 :: u206 :: u207 :: u208 :: u209 :: u210 :: u211 :: u212 :: u213 :: u214 :: u215 :: u216 :: u217 :: u218 :: u219 :: u220 :: u221 :: u222 :: u223 :: u224 :: u225 :: u226 :: u227 :: u228 :: u229 :: u230 :: u231 :: u232 :: u233 :: u234 :: u235 :: u236 :: u237 :: u238 :: u239 :: u240 :: u241 :: u242 :: u243 :: u244 :: u245 :: u246 :: u247 :: u248 :: []), defers := [] } w1 := by
  conv => arg 2; whnf
  have hz1 := hb1.size
  have hM0 := mem_new w1 w.heap.size hz1
  have hb0 : But [] w ((w1.alloc (.map #[] 0)).alloc (.cells #[.map (some w1.heap.size), .int .i64 0] tM)) := (hb1.alloc _).alloc _
  go_upto_region 10 with fail
  go_cut [11] (fun s wx => s = .pointer (some ⟨w1.heap.size + 1, 0, none⟩) ∧ Mem wx w.heap.size (w1.heap.size + 1) w1.heap.size 0 [] ∧ But [] w wx)
  case first =>
    go_wp2_with fail
    refine (new _).mono ?_
    rintro e w2 ⟨rfl, hw2⟩
    have hM2 : Mem w2 w.heap.size (w1.heap.size + 1) w1.heap.size 0 [] := by rw [hw2]; exact hM0
    have hb2 : But [] w w2 := by rw [hw2]; exact hb0
    clear hw2 hM0 hb0
    go_wp2_with fail
    go_meet
    exact ⟨rfl, hM2, hb2⟩
  case rest =>
    obtain ⟨rfl, hM2, hb2⟩ := hcut
    refine (by assumption : ∀ (a : Act) (w1 : World), Code.wp Try.prog _ _ a w1 → _) _ _ ?_
    exact k6 HR HB HRB HBB HO1 HO2 HW1 HW2 hlb h2 (by omega) hz1 h3 hM2 hb2
noncomputable def code_k4 : Code := dropSeq 4 (Try.f4.body.getD .skip)
set_option maxRecDepth 100000 in
set_option maxHeartbeats 2000000 in
theorem k4 {w : World} {rows : List (List Value)} {which off : Int} {b : List Value} {a0 a3 : Option Addr} {c0 c3 : Nat} {n : Nat} {w1 : World} {u4 u5 u6 u7 u8 u10 u11 u12 u13 u14 u15 u16 u17 u18 u19 u20 u21 u22 u23 u24 u25 u26 u27 u28 u29 u30 u31 u32 u33 u34 u35 u36 u37 u38 u39 u40 u41 u42 u43 u44 u45 u46 u47 u48 u49 u50 u51 u52 u53 u54 u55 u56 u57 u58 u59 u60 u61 u62 u63 u64 u65 u66 u67 u68 u69 u70 u71 u72 u73 u74 u75 u76 u77 u78 u79 u80 u81 u82 u83 u84 u85 u86 u87 u88 u89 u90 u91 u92 u93 u94 u95 u96 u97 u98 u99 u100 u101 u102 u103 u104 u105 u106 u107 u108 u109 u110 u111 u112 u113 u114 u115 u116 u117 u118 u119 u120 u121 u122 u123 u124 u125 u126 u127 u128 u129 u130 u131 u132 u133 u134 u135 u136 u137 u138 u139 u140 u141 u142 u143 u144 u145 u146 u147 u148 u149 u150 u151 u152 u153 u154 u155 u156 u157 u158 u159 u160 u161 u162 u163 u164 u165 u166 u167 u168 u169 u170 u171 u172 u173 u174 u175 u176 u177 u178 u179 u180 u181 u182 u183 u184 u185 u186 u187 u188 u189 u190 u191 u192 u193 u194 u195 u196 u197 u198 u199 u200 u201 u202 u203 u204 u205 u206 u207 u208 u209 u210 u211 u212 u213 u214 u215 u216 u217 u218 u219 u220 u221 u222 u223 u224 u225 u226 u227 u228 u229 u230 u231 u232 u233 u234 u235 u236 u237 u238 u239 u240 u241 u242 u243 u244 u245 u246 u247 u248 : Value} (HR : Hid (∀ k, k < rows.length → ∃ ad a' c', a0 = some ad ∧ w.cell? (ad.add k) = some (.slice a' (row rows k).length c') ∧ Sees w (.slice a' (row rows k).length c') (row rows k))) (HB : Hid (Sees w (.slice a3 b.length c3) b)) (HRB : Hid (∀ r ∈ rows, IsBytes r ∧ r.length ≤ 140737488351232)) (HBB : Hid (IsBytes b)) (HO1 : Hid (-9223372036854775808 ≤ off)) (HO2 : Hid (off ≤ 9223372036854775807)) (HW1 : Hid (-9223372036854775808 ≤ which)) (HW2 : Hid (which ≤ 9223372036854775807)) (HN : Hid (n ≤ 20000 → n = b.length + tot rows rows.length)) (hrl : rows.length ≤ 140737488351232) (hnb : n ≤ 1000000000000000) (hb1 : But [] w w1) :
    Code.wp Try.prog code_k4 (bodyPost Try.prog Try.f4 fun e w' => e = .returned (.bool true) ∧ But [] w w') { tmps := List.toArray (.slice a0 rows.length c0 :: .int .i64 which :: .int .i64 off :: .slice a3 b.length c3 :: u4 :: u5 :: u6 :: u7 :: u8 :: .int .i64 n :: u10 :: u11 :: u12 :: u13 :: u14 :: u15 :: u16 :: u17 :: u18 :: u19 :: u20 :: u21 :: u22 :: u23 :: u24 :: u25 :: u26 :: u27 :: u28 :: u29 :: u30 :: u31 :: u32 :: u33 :: u34 :: u35 :: u36 :: u37 :: u38 :: u39 :: u40 :: u41 :: u42 :: u43 :: u44 :: u45 :: u46 :: u47 :: u48 :: u49 :: u50 :: u51 :: u52 :: u53 :: u54 :: u55 :: u56 :: u57 :: u58 :: u59 :: u60 :: u61 :: u62 :: u63 :: u64 :: u65 :: u66 :: u67 :: u68 :: u69 :: u70 :: u71 :: u72 :: u73 :: u74 :: u75 :: u76 :: u77 :: u78 :: u79 :: u80 :: u81 :: u82 :: u83 :: u84 :: u85 :: u86 :: u87 :: u88 :: u89 :: u90 :: u91 :: u92 :: u93 :: u94 :: u95 :: u96 :: u97 :: u98 :: u99 :: u100 :: u101 :: u102 :: u103 :: u104 :: u105 :: u106 :: u107 :: u108 :: u109 :: u110 :: u111 :: u112 :: u113 :: u114 :: u115 :: u116 :: u117 :: u118 :: u119 :: u120 :: u121 :: u122 :: u123 :: u124 :: u125 :: u126 :: u127 :: u128 :: u129 :: u130 :: u131 :: u132 :: u133 :: u134 :: u135 :: u136 :: u137 :: u138 :: u139 :: u140 :: u141 :: u142 :: u143 :: u144 :: u145 :: u146 :: u147 :: u148 :: u149 :: u150 :: u151 :: u152 :: u153 :: u154 :: u155 :: u156 :: u157 :: u158 :: u159 :: u160 :: u161 :: u162 :: u163 :: u164 :: u165 :: u166 :: u167 :: u168 :: u169 :: u170 :: u171 :: u172 :: u173 :: u174 :: u175 :: u176 :: u177 :: u178 :: u179 :: u180 :: u181 :: u182 :: u183 :: u184 :: u185 :: u186 :: u187 :: u188 :: u189 :: u190 :: u191 :: u192 :: u193 :: u194 :: u195 :: u196 :: u197 :: u198 :: u199 :: u200 :: u201 :: u202 :: u203 :: u204 :: u205 :: u206 :: u207 :: u208 :: u209 :: u210 :: u211 :: u212 :: u213 :: u214 :: u215 :: u216 :: u217 :: u218 :: u219 :: u220 :: u221 :: u222 :: u223 :: u224 :: u225 :: u226 :: u227 :: u228 :: u229 :: u230 :: u231 :: u232 :: u233 :: u234 :: u235 :: u236 :: u237 :: u238 :: u239 :: u240 :: u241 :: u242 :: u243 :: u244 :: u245 :: u246 :: u247 :: u248 :: []), defers := [] } w1 := by
  conv => arg 2; whnf
  go_upto_region 8 with fail
  by_cases h1 : n ≤ 20000
  · by_cases h2 : rows.length ≤ 20
    · by_cases h3 : rows.length = 0
      · have hq : ((rows.length : Int) == 0) = true := by rw [h3]; rfl
        have H3 := Lib.hid h3
        clear h3
        go_wp2_with fail
        go_ret
        exact ⟨rfl, hb1⟩
      · have hq : ((rows.length : Int) == 0) = false := beq_eq_false_iff_ne.2 (by omega)
        have hlb : b.length ≤ 20000 := by have := HN.out h1; omega
        go_cut [56] (fun s wx => s = .bool false ∧ wx = w1)
        case first =>
          go_wp2_with fail
          go_meet
          exact ⟨by rw [decide_eq_false (show ¬ (20000 : Int) < n by omega), decide_eq_false (show ¬ (20 : Int) < rows.length by omega)]; rfl, rfl⟩
        case rest =>
          obtain ⟨rfl, rfl⟩ := hcut
          go_upto_if 56 with fail
          go_cut [] (fun wx => wx = wc)
          case first =>
            go_wp2_with fail
            go_meet
            rfl
          case rest =>
            obtain rfl := hcut
            refine (by assumption : ∀ (a : Act) (w1 : World), Code.wp Try.prog _ _ a w1 → _) _ _ ?_
            exact k5 HR HB HRB HBB HO1 HO2 HW1 HW2 hlb h2 h3 hb1
    · go_wp2_with fail
      go_ret
      exact ⟨rfl, hb1⟩
  · go_wp2_with fail
    go_ret
    exact ⟨rfl, hb1⟩
set_option maxRecDepth 100000 in
set_option maxHeartbeats 4000000 in
theorem regionKeeps (w : World) (v0 : Value) (rows : List (List Value)) (which off : Int) (v3 : Value) (b : List Value) (hr : SeesRows w v0 rows) (hrl : rows.length ≤ 140737488351232) (hrb : ∀ r ∈ rows, IsBytes r ∧ r.length ≤ 140737488351232)
    (hw1 : -9223372036854775808 ≤ which) (hw2 : which ≤ 9223372036854775807) (ho1 : -9223372036854775808 ≤ off) (ho2 : off ≤ 9223372036854775807) (hb : Sees w v3 b) (hbb : IsBytes b) (hbl : b.length ≤ 140737488351232) :
    Calls Try.prog 4 #[v0, .int .i64 which, .int .i64 off, v3] w fun e w' => e = .returned (.bool true) ∧ But [] w w' := by
  obtain ⟨a0, c0, rfl, hrow⟩ := rows_at hr
  obtain ⟨a3, c3, rfl, hb3⟩ := sees_shape hb
  have HR := Lib.hid hrow
  have HB := Lib.hid hb
  have HRB := Lib.hid hrb
  have HBB := Lib.hid hbb
  have HW1 := Lib.hid hw1
  have HW2 := Lib.hid hw2
  have HO1 := Lib.hid ho1
  have HO2 := Lib.hid ho2
  clear hrow hb hrb hbb hw1 hw2 ho1 ho2 hr hb3
  go_enter Try.func4, Try.ntmps4
  go_upto_block 0 with (go_at_call 11; refine (awake _).mono ?_; rintro e w1 ⟨rfl, hb1⟩)
  go_cut [9] (fun s9 wx => ∃ n : Nat, s9 = .int .i64 n ∧ (n ≤ 20000 → n = b.length + tot rows rows.length) ∧ n ≤ 1000000000000000 ∧ wx = w1)
  case first =>
    go_wp2_with fail
    go_loop [9, 10] (fun s i => ∃ k n : Nat, k ≤ rows.length ∧ i = .int .i64 k ∧ s = .int .i64 n ∧ Hid (n = b.length + tot rows k) ∧ n ≤ 1000000000000000) (fun _ i => rows.length - (intOf i).toNat)
    case atStart => exact ⟨0, b.length, by omega, rfl, rfl, Lib.hid rfl, by omega⟩
    case round =>
      obtain ⟨k, n, hk, rfl, rfl, hn, hnb⟩ := hrel
      by_cases hlt : k < rows.length
      · by_cases h20 : n ≤ 20000
        · obtain ⟨ad, a', c', rfl, hc, _⟩ := HR.out k hlt
          have hc1 : w1.cell? (ad.add k) = some (Value.slice a' (row rows k).length c') := cell_but hb1 hc (by simp)
          have hrk : (row rows k).length ≤ 140737488351232 := (HRB.out _ (row_mem hlt)).2
          clear hc
          go_wp2_with fail
          go_round
          case rel => exact ⟨k + 1, n + (row rows k).length, by omega, by go_num, by go_num, Lib.hid (by rw [tot_succ rows k hlt, hn.out]; omega), by omega⟩
          case measure => simp [intOf]; omega
        · go_wp2_with fail
          go_meet
          exact ⟨n, rfl, fun h => absurd h h20, hnb, rfl⟩
      · obtain rfl : k = rows.length := by omega
        by_cases h20 : n ≤ 20000
        all_goals
          go_wp2_with fail
          go_meet
          exact ⟨n, rfl, fun h => hn.out, hnb, rfl⟩
  case rest =>
    obtain ⟨n, rfl, hn, hnb, rfl⟩ := hcut
    refine (by assumption : ∀ (a : Act) (w1 : World), Code.wp Try.prog _ _ a w1 → _) _ _ ?_
    exact k4 HR HB HRB HBB HO1 HO2 HW1 HW2 (Lib.hid hn) hrl hnb hb1
theorem i64_of {x : Int} (h : (Lit.int .i64 x).wf = true) : -9223372036854775808 ≤ x ∧ x ≤ 9223372036854775807 := by
  simp only [Lit.wf, Bool.and_eq_true, decide_eq_true_eq] at h
  have h1 : IntKind.i64.min = -9223372036854775808 := rfl
  have h2 : IntKind.i64.max = 9223372036854775807 := rfl
  exact ⟨by omega, by omega⟩
theorem regionKeeps_walk (w : World) (v0 : Value) (rows : List (List Value)) (which off : Int) (v3 : Value) (b : List Value) (hr : SeesRows w v0 rows) (hrl : rows.length ≤ 140737488351232) (hrb : ∀ r ∈ rows, IsBytes r ∧ r.length ≤ 140737488351232) (h1 : (Lit.int .i64 which).wf = true) (h2 : (Lit.int .i64 off).wf = true) (hb : Sees w v3 b) (hbb : IsBytes b) (hbl : b.length ≤ 140737488351232) :
    Calls Try.prog 4 #[v0, .int .i64 which, .int .i64 off, v3] w fun e w' => e = .returned (.bool true) ∧ Below w.heap.size w w' :=
  (regionKeeps w v0 rows which off v3 b hr hrl hrb (i64_of h1).1 (i64_of h1).2 (i64_of h2).1 (i64_of h2).2 hb hbb hbl).mono fun _ _ ⟨he, hb⟩ => ⟨he, hb.below (Nat.le_refl _) (by simp)⟩
end Go.Proofs.Ytmleaogklpogdaa.M
