/-
  'RegionKeeps' tells true: the walk, its middle: one theorem a statement.
-/
import Derived.Test.YtmleaogklpogdaaKeepsC
import Derived.Deep.DeepCutAuto
import Derived.Deep.CutBlock
namespace Go.Proofs.Ytmleaogklpogdaa.M
open Go.RowKit
set_option linter.unusedVariables false
set_option linter.unusedSectionVars false
set_option linter.unusedSimpArgs false
def errW (fb : Bool) : Int := if fb = true then 0 else 32
noncomputable def code_k22 : Code := dropSeq 10 (Try.f4.body.getD .skip)
set_option maxRecDepth 100000 in
set_option maxHeartbeats 2000000 in
theorem k22 {w : World} {rows : List (List Value)} {which off : Int} {b : List Value} {a0 a3 : Option Addr} {c0 c3 B b0 : Nat} {kk : Nat} {fb : Bool} {l' : List Part} {w5 : World} {u4 u5 u6 u7 u8 u9 u10 u12 u13 u14 u18 u19 u20 u21 u22 u23 u24 u25 u26 u27 u28 u29 u30 u31 u32 u33 u34 u35 u36 u37 u38 u39 u40 u41 u42 u43 u44 u45 u46 u47 u48 u49 u50 u51 u52 u53 u54 u55 u56 u57 u58 u59 u60 u61 u62 u63 u64 u65 u66 u67 u68 u69 u70 u71 u72 u73 u74 u75 u76 u77 u78 u79 u80 u81 u82 u83 u84 u85 u86 u87 u88 u89 u90 u91 u92 u93 u94 u95 u96 u97 u98 u99 u100 u101 u102 u103 u104 u105 u106 u107 u108 u109 u110 u111 u112 u113 u114 u115 u116 u117 u118 u119 u120 u121 u122 u123 u124 u125 u126 u127 u128 u129 u130 u131 u132 u133 u134 u135 u136 u137 u138 u139 u140 u141 u142 u143 u144 u145 u146 u147 u148 u149 u150 u151 u152 u153 u154 u155 u156 u157 u158 u159 u160 u161 u162 u163 u164 u165 u166 u167 u168 u169 u170 u171 u172 u173 u174 u175 u176 u177 u178 u179 u180 u181 u182 u183 u184 u185 u186 u187 u188 u189 u190 u191 u192 u193 u194 u195 u196 u197 u198 u199 u200 u201 u202 u203 u204 u205 u206 u207 u208 u209 u210 u211 u212 u213 u214 u215 u216 u217 u218 u219 u220 u221 u222 u223 u224 u225 u226 u227 u228 u229 u230 u231 u232 u233 u234 u235 u236 u237 u238 u239 u240 u241 u242 u243 u244 u245 u246 u247 u248 : Value} (HR : Hid (∀ k, k < rows.length → ∃ ad a' c', a0 = some ad ∧ w.cell? (ad.add k) = some (.slice a' (row rows k).length c') ∧ Sees w (.slice a' (row rows k).length c') (row rows k))) (HB : Hid (Sees w (.slice a3 b.length c3) b)) (HRB : Hid (∀ r ∈ rows, IsBytes r ∧ r.length ≤ 140737488351232)) (HBB : Hid (IsBytes b)) (HO1 : Hid (-9223372036854775808 ≤ off)) (HO2 : Hid (off ≤ 9223372036854775807)) (hlb : b.length ≤ 20000) (h2 : rows.length ≤ 20) (hB1 : w.heap.size ≤ B) (hB2 : w.heap.size ≤ b0) (hkl : kk < rows.length) (HF : Hid (fits off (row rows kk).length b.length = fb)) (HFO : Hid (fb = true → off.toNat + b.length ≤ (row rows kk).length)) (HS' : Hid (Shape l' rows.length (aft rows b off.toNat kk fb))) (hM' : Mem w5 w.heap.size B b0 rows.length l') (hbc : But [] w w5) :
    Code.wp Try.prog code_k22 (bodyPost Try.prog Try.f4 fun e w' => e = .returned (.bool true) ∧ But [] w w') { tmps := List.toArray (.slice a0 rows.length c0 :: .int .i64 which :: .int .i64 off :: .slice a3 b.length c3 :: u4 :: u5 :: u6 :: u7 :: u8 :: u9 :: u10 :: .pointer (some ⟨B, 0, none⟩) :: u12 :: u13 :: u14 :: .int .i64 kk :: .int .i64 (errW fb) :: .bool fb :: u18 :: u19 :: u20 :: u21 :: u22 :: u23 :: u24 :: u25 :: u26 :: u27 :: u28 :: u29 :: u30 :: u31 :: u32 :: u33 :: u34 :: u35 :: u36 :: u37 :: u38 :: u39 :: u40 :: u41 :: u42 :: u43 :: u44 :: u45 :: u46 :: u47 :: u48 :: u49 :: u50 :: u51 :: u52 :: u53 :: u54 :: u55 :: u56 :: u57 :: u58 :: u59 :: u60 :: u61 :: u62 :: u63 :: u64 :: u65 :: u66 :: u67 :: u68 :: u69 :: u70 :: u71 :: u72 :: u73 :: u74 :: u75 :: u76 :: u77 :: u78 :: u79 :: u80 :: u81 :: u82 :: u83 :: u84 :: u85 :: u86 :: u87 :: u88 :: u89 :: u90 :: u91 :: u92 :: u93 :: u94 :: u95 :: u96 :: u97 :: u98 :: u99 :: u100 :: u101 :: u102 :: u103 :: u104 :: u105 :: u106 :: u107 :: u108 :: u109 :: u110 :: u111 :: u112 :: u113 :: u114 :: u115 :: u116 :: u117 :: u118 :: u119 :: u120 :: u121 :: u122 :: u123 :: u124 :: u125 :: u126 :: u127 :: u128 :: u129 :: u130 :: u131 :: u132 :: u133 :: u134 :: u135 :: u136 :: u137 :: u138 :: u139 :: u140 :: u141 :: u142 :: u143 :: u144 :: u145 :: u146 :: u147 :: u148 :: u149 :: u150 :: u151 :: u152 :: u153 :: u154 :: u155 :: u156 :: u157 :: u158 :: u159 :: u160 :: u161 :: u162 :: u163 :: u164 :: u165 :: u166 :: u167 :: u168 :: u169 :: u170 :: u171 :: u172 :: u173 :: u174 :: u175 :: u176 :: u177 :: u178 :: u179 :: u180 :: u181 :: u182 :: u183 :: u184 :: u185 :: u186 :: u187 :: u188 :: u189 :: u190 :: u191 :: u192 :: u193 :: u194 :: u195 :: u196 :: u197 :: u198 :: u199 :: u200 :: u201 :: u202 :: u203 :: u204 :: u205 :: u206 :: u207 :: u208 :: u209 :: u210 :: u211 :: u212 :: u213 :: u214 :: u215 :: u216 :: u217 :: u218 :: u219 :: u220 :: u221 :: u222 :: u223 :: u224 :: u225 :: u226 :: u227 :: u228 :: u229 :: u230 :: u231 :: u232 :: u233 :: u234 :: u235 :: u236 :: u237 :: u238 :: u239 :: u240 :: u241 :: u242 :: u243 :: u244 :: u245 :: u246 :: u247 :: u248 :: []), defers := [] } w5 := by
  conv => arg 2; whnf
  have he0 : errW false = 32 := rfl
  have he1 : errW true = 0 := rfl
  go_upto_region 22 with fail
  go_cut [137] (fun s wx => s = .bool false ∧ wx = w5)
  case first =>
    cases fb
    all_goals
      go_wp2_with fail
      go_meet
      exact ⟨rfl, rfl⟩
  case rest =>
    obtain ⟨rfl, rfl⟩ := hcut
    go_upto_if 137 with fail
    go_cut [] (fun wx => wx = wc)
    case first =>
      go_wp2_with fail
      go_meet
      rfl
    case rest =>
      obtain rfl := hcut
      refine (by assumption : ∀ (a : Act) (w1 : World), Code.wp Try.prog _ _ a w1 → _) _ _ ?_
      exact tail3 HR HB HRB HBB HO1 HO2 hlb h2 hkl hB1 hB2 HF HFO HS' hM' hbc
noncomputable def code_k21 : Code := dropSeq 9 (Try.f4.body.getD .skip)
set_option maxRecDepth 100000 in
set_option maxHeartbeats 2000000 in
theorem k21 {w : World} {rows : List (List Value)} {which off : Int} {b : List Value} {a0 a3 : Option Addr} {c0 c3 B b0 : Nat} {kk : Nat} {fb : Bool} {l' : List Part} {w5 : World} {u4 u5 u6 u7 u8 u9 u10 u12 u13 u14 u17 u18 u19 u20 u21 u22 u23 u24 u25 u26 u27 u28 u29 u30 u31 u32 u33 u34 u35 u36 u37 u38 u39 u40 u41 u42 u43 u44 u45 u46 u47 u48 u49 u50 u51 u52 u53 u54 u55 u56 u57 u58 u59 u60 u61 u62 u63 u64 u65 u66 u67 u68 u69 u70 u71 u72 u73 u74 u75 u76 u77 u78 u79 u80 u81 u82 u83 u84 u85 u86 u87 u88 u89 u90 u91 u92 u93 u94 u95 u96 u97 u98 u99 u100 u101 u102 u103 u104 u105 u106 u107 u108 u109 u110 u111 u112 u113 u114 u115 u116 u117 u118 u119 u120 u121 u122 u123 u124 u125 u126 u127 u128 u129 u130 u131 u132 u133 u134 u135 u136 u137 u138 u139 u140 u141 u142 u143 u144 u145 u146 u147 u148 u149 u150 u151 u152 u153 u154 u155 u156 u157 u158 u159 u160 u161 u162 u163 u164 u165 u166 u167 u168 u169 u170 u171 u172 u173 u174 u175 u176 u177 u178 u179 u180 u181 u182 u183 u184 u185 u186 u187 u188 u189 u190 u191 u192 u193 u194 u195 u196 u197 u198 u199 u200 u201 u202 u203 u204 u205 u206 u207 u208 u209 u210 u211 u212 u213 u214 u215 u216 u217 u218 u219 u220 u221 u222 u223 u224 u225 u226 u227 u228 u229 u230 u231 u232 u233 u234 u235 u236 u237 u238 u239 u240 u241 u242 u243 u244 u245 u246 u247 u248 : Value} (HR : Hid (∀ k, k < rows.length → ∃ ad a' c', a0 = some ad ∧ w.cell? (ad.add k) = some (.slice a' (row rows k).length c') ∧ Sees w (.slice a' (row rows k).length c') (row rows k))) (HB : Hid (Sees w (.slice a3 b.length c3) b)) (HRB : Hid (∀ r ∈ rows, IsBytes r ∧ r.length ≤ 140737488351232)) (HBB : Hid (IsBytes b)) (HO1 : Hid (-9223372036854775808 ≤ off)) (HO2 : Hid (off ≤ 9223372036854775807)) (hlb : b.length ≤ 20000) (h2 : rows.length ≤ 20) (hB1 : w.heap.size ≤ B) (hB2 : w.heap.size ≤ b0) (hkl : kk < rows.length) (hrk4 : (row rows kk).length ≤ 4096) (HF : Hid (fits off (row rows kk).length b.length = fb)) (HFO : Hid (fb = true → off.toNat + b.length ≤ (row rows kk).length)) (HS' : Hid (Shape l' rows.length (aft rows b off.toNat kk fb))) (hM' : Mem w5 w.heap.size B b0 rows.length l') (hbc : But [] w w5) :
    Code.wp Try.prog code_k21 (bodyPost Try.prog Try.f4 fun e w' => e = .returned (.bool true) ∧ But [] w w') { tmps := List.toArray (.slice a0 rows.length c0 :: .int .i64 which :: .int .i64 off :: .slice a3 b.length c3 :: u4 :: u5 :: u6 :: u7 :: u8 :: u9 :: u10 :: .pointer (some ⟨B, 0, none⟩) :: u12 :: u13 :: u14 :: .int .i64 kk :: .int .i64 (errW fb) :: u17 :: u18 :: u19 :: u20 :: u21 :: u22 :: u23 :: u24 :: u25 :: u26 :: u27 :: u28 :: u29 :: u30 :: u31 :: u32 :: u33 :: u34 :: u35 :: u36 :: u37 :: u38 :: u39 :: u40 :: u41 :: u42 :: u43 :: u44 :: u45 :: u46 :: u47 :: u48 :: u49 :: u50 :: u51 :: u52 :: u53 :: u54 :: u55 :: u56 :: u57 :: u58 :: u59 :: u60 :: u61 :: u62 :: u63 :: u64 :: u65 :: u66 :: u67 :: u68 :: u69 :: u70 :: u71 :: u72 :: u73 :: u74 :: u75 :: u76 :: u77 :: u78 :: u79 :: u80 :: u81 :: u82 :: u83 :: u84 :: u85 :: u86 :: u87 :: u88 :: u89 :: u90 :: u91 :: u92 :: u93 :: u94 :: u95 :: u96 :: u97 :: u98 :: u99 :: u100 :: u101 :: u102 :: u103 :: u104 :: u105 :: u106 :: u107 :: u108 :: u109 :: u110 :: u111 :: u112 :: u113 :: u114 :: u115 :: u116 :: u117 :: u118 :: u119 :: u120 :: u121 :: u122 :: u123 :: u124 :: u125 :: u126 :: u127 :: u128 :: u129 :: u130 :: u131 :: u132 :: u133 :: u134 :: u135 :: u136 :: u137 :: u138 :: u139 :: u140 :: u141 :: u142 :: u143 :: u144 :: u145 :: u146 :: u147 :: u148 :: u149 :: u150 :: u151 :: u152 :: u153 :: u154 :: u155 :: u156 :: u157 :: u158 :: u159 :: u160 :: u161 :: u162 :: u163 :: u164 :: u165 :: u166 :: u167 :: u168 :: u169 :: u170 :: u171 :: u172 :: u173 :: u174 :: u175 :: u176 :: u177 :: u178 :: u179 :: u180 :: u181 :: u182 :: u183 :: u184 :: u185 :: u186 :: u187 :: u188 :: u189 :: u190 :: u191 :: u192 :: u193 :: u194 :: u195 :: u196 :: u197 :: u198 :: u199 :: u200 :: u201 :: u202 :: u203 :: u204 :: u205 :: u206 :: u207 :: u208 :: u209 :: u210 :: u211 :: u212 :: u213 :: u214 :: u215 :: u216 :: u217 :: u218 :: u219 :: u220 :: u221 :: u222 :: u223 :: u224 :: u225 :: u226 :: u227 :: u228 :: u229 :: u230 :: u231 :: u232 :: u233 :: u234 :: u235 :: u236 :: u237 :: u238 :: u239 :: u240 :: u241 :: u242 :: u243 :: u244 :: u245 :: u246 :: u247 :: u248 :: []), defers := [] } w5 := by
  conv => arg 2; whnf
  obtain ⟨ad, a', c', rfl, hc, hs⟩ := HR.out kk hkl
  have hcr : w5.cell? (ad.add kk) = some (Value.slice a' (row rows kk).length c') := cell_but hbc hc (by simp)
  clear hc hs
  go_upto_region 21 with fail
  go_cut [17] (fun s wx => s = .bool fb ∧ wx = w5)
  case first =>
    cases fb
    · have hno := HF.out
      simp only [fits, Has, Bool.and_eq_false_iff, decide_eq_false_iff_not] at hno
      have HNO := Lib.hid hno
      clear hno
      by_cases h0 : 0 ≤ off
      · by_cases h5 : off ≤ (row rows kk).length
        · have h6 : ¬ (b.length : Int) ≤ (row rows kk).length - off := by
            rcases HNO.out with ((h | h) | h) | h
            · exact absurd h0 h
            · omega
            · exact absurd h5 h
            · exact h
          have hmx : max off 0 = off := by omega
          have hmn : min off 4096 = off := by omega
          go_wp2_with fail
          go_meet
          exact ⟨rfl, rfl⟩
        · go_wp2_with fail
          go_meet
          exact ⟨rfl, rfl⟩
      · go_wp2_with fail
        go_meet
        exact ⟨rfl, rfl⟩
    · have hyes : Has off b.length (row rows kk).length = true := HF.out
      simp only [Has, Bool.and_eq_true, decide_eq_true_eq] at hyes
      obtain ⟨⟨⟨h0, _⟩, h5⟩, h6⟩ := hyes
      have hmx : max off 0 = off := by omega
      have hmn : min off 4096 = off := by omega
      go_wp2_with fail
      go_meet
      exact ⟨rfl, rfl⟩
  case rest =>
    obtain ⟨rfl, rfl⟩ := hcut
    refine (by assumption : ∀ (a : Act) (w1 : World), Code.wp Try.prog _ _ a w1 → _) _ _ ?_
    exact k22 HR HB HRB HBB HO1 HO2 hlb h2 hB1 hB2 hkl HF HFO HS' hM' hbc
noncomputable def code_k20 : Code := dropSeq 8 (Try.f4.body.getD .skip)
set_option maxRecDepth 100000 in
set_option maxHeartbeats 2000000 in
theorem k20 {w : World} {rows : List (List Value)} {which off : Int} {b : List Value} {a0 a3 : Option Addr} {c0 c3 B b0 : Nat} {kk : Nat} {fb : Bool} {l : List Part} {wr : World} {u4 u5 u6 u7 u8 u9 u10 u12 u13 u14 u16 u17 u18 u19 u20 u21 u22 u23 u24 u25 u26 u27 u28 u29 u30 u31 u32 u33 u34 u35 u36 u37 u38 u39 u40 u41 u42 u43 u44 u45 u46 u47 u48 u49 u50 u51 u52 u53 u54 u55 u56 u57 u58 u59 u60 u61 u62 u63 u64 u65 u66 u67 u68 u69 u70 u71 u72 u73 u74 u75 u76 u77 u78 u79 u80 u81 u82 u83 u84 u85 u86 u87 u88 u89 u90 u91 u92 u93 u94 u95 u96 u97 u98 u99 u100 u101 u102 u103 u104 u105 u106 u107 u108 u109 u110 u111 u112 u113 u114 u115 u116 u117 u118 u119 u120 u121 u122 u123 u124 u125 u126 u127 u128 u129 u130 u131 u132 u133 u134 u135 u136 u137 u138 u139 u140 u141 u142 u143 u144 u145 u146 u147 u148 u149 u150 u151 u152 u153 u154 u155 u156 u157 u158 u159 u160 u161 u162 u163 u164 u165 u166 u167 u168 u169 u170 u171 u172 u173 u174 u175 u176 u177 u178 u179 u180 u181 u182 u183 u184 u185 u186 u187 u188 u189 u190 u191 u192 u193 u194 u195 u196 u197 u198 u199 u200 u201 u202 u203 u204 u205 u206 u207 u208 u209 u210 u211 u212 u213 u214 u215 u216 u217 u218 u219 u220 u221 u222 u223 u224 u225 u226 u227 u228 u229 u230 u231 u232 u233 u234 u235 u236 u237 u238 u239 u240 u241 u242 u243 u244 u245 u246 u247 u248 : Value} (HR : Hid (∀ k, k < rows.length → ∃ ad a' c', a0 = some ad ∧ w.cell? (ad.add k) = some (.slice a' (row rows k).length c') ∧ Sees w (.slice a' (row rows k).length c') (row rows k))) (HB : Hid (Sees w (.slice a3 b.length c3) b)) (HRB : Hid (∀ r ∈ rows, IsBytes r ∧ r.length ≤ 140737488351232)) (HBB : Hid (IsBytes b)) (HO1 : Hid (-9223372036854775808 ≤ off)) (HO2 : Hid (off ≤ 9223372036854775807)) (hlb : b.length ≤ 20000) (h2 : rows.length ≤ 20) (hB1 : w.heap.size ≤ B) (hB2 : w.heap.size ≤ b0) (hkl : kk < rows.length) (HF : Hid (fits off (row rows kk).length b.length = fb)) (HS : Hid (Shape l rows.length (row rows))) (hM : Mem wr w.heap.size B b0 rows.length l) (hbw : But [] w wr) :
    Code.wp Try.prog code_k20 (bodyPost Try.prog Try.f4 fun e w' => e = .returned (.bool true) ∧ But [] w w') { tmps := List.toArray (.slice a0 rows.length c0 :: .int .i64 which :: .int .i64 off :: .slice a3 b.length c3 :: u4 :: u5 :: u6 :: u7 :: u8 :: u9 :: u10 :: .pointer (some ⟨B, 0, none⟩) :: u12 :: u13 :: u14 :: .int .i64 kk :: u16 :: u17 :: u18 :: u19 :: u20 :: u21 :: u22 :: u23 :: u24 :: u25 :: u26 :: u27 :: u28 :: u29 :: u30 :: u31 :: u32 :: u33 :: u34 :: u35 :: u36 :: u37 :: u38 :: u39 :: u40 :: u41 :: u42 :: u43 :: u44 :: u45 :: u46 :: u47 :: u48 :: u49 :: u50 :: u51 :: u52 :: u53 :: u54 :: u55 :: u56 :: u57 :: u58 :: u59 :: u60 :: u61 :: u62 :: u63 :: u64 :: u65 :: u66 :: u67 :: u68 :: u69 :: u70 :: u71 :: u72 :: u73 :: u74 :: u75 :: u76 :: u77 :: u78 :: u79 :: u80 :: u81 :: u82 :: u83 :: u84 :: u85 :: u86 :: u87 :: u88 :: u89 :: u90 :: u91 :: u92 :: u93 :: u94 :: u95 :: u96 :: u97 :: u98 :: u99 :: u100 :: u101 :: u102 :: u103 :: u104 :: u105 :: u106 :: u107 :: u108 :: u109 :: u110 :: u111 :: u112 :: u113 :: u114 :: u115 :: u116 :: u117 :: u118 :: u119 :: u120 :: u121 :: u122 :: u123 :: u124 :: u125 :: u126 :: u127 :: u128 :: u129 :: u130 :: u131 :: u132 :: u133 :: u134 :: u135 :: u136 :: u137 :: u138 :: u139 :: u140 :: u141 :: u142 :: u143 :: u144 :: u145 :: u146 :: u147 :: u148 :: u149 :: u150 :: u151 :: u152 :: u153 :: u154 :: u155 :: u156 :: u157 :: u158 :: u159 :: u160 :: u161 :: u162 :: u163 :: u164 :: u165 :: u166 :: u167 :: u168 :: u169 :: u170 :: u171 :: u172 :: u173 :: u174 :: u175 :: u176 :: u177 :: u178 :: u179 :: u180 :: u181 :: u182 :: u183 :: u184 :: u185 :: u186 :: u187 :: u188 :: u189 :: u190 :: u191 :: u192 :: u193 :: u194 :: u195 :: u196 :: u197 :: u198 :: u199 :: u200 :: u201 :: u202 :: u203 :: u204 :: u205 :: u206 :: u207 :: u208 :: u209 :: u210 :: u211 :: u212 :: u213 :: u214 :: u215 :: u216 :: u217 :: u218 :: u219 :: u220 :: u221 :: u222 :: u223 :: u224 :: u225 :: u226 :: u227 :: u228 :: u229 :: u230 :: u231 :: u232 :: u233 :: u234 :: u235 :: u236 :: u237 :: u238 :: u239 :: u240 :: u241 :: u242 :: u243 :: u244 :: u245 :: u246 :: u247 :: u248 :: []), defers := [] } wr := by
  conv => arg 2; whnf
  obtain ⟨p, hp, hp1, hp2, hp3⟩ := HS.out.get hkl
  have HP1 := Lib.hid hp1
  have HP2 := Lib.hid hp2
  have hfo : fb = true → off.toNat + b.length ≤ (row rows kk).length := fun h => by
    have h1 := HF.out
    rw [h] at h1
    simp only [fits, Has, Bool.and_eq_true, decide_eq_true_eq] at h1
    omega
  have HFO := Lib.hid hfo
  have hrk4 : (row rows kk).length ≤ 4096 := by rw [← hp2]; exact (hM.part p hp).2.2.2.1
  clear hp1 hp2 hp3 hfo
  go_upto_region 20 with fail
  go_cut [16] (fun s wx => ∃ l', s = .int .i64 (errW fb) ∧ Mem wx w.heap.size B b0 rows.length l' ∧ Shape l' rows.length (aft rows b off.toNat kk fb) ∧ But [] w wx)
  case first =>
    cases fb
    · have hno : Has off b.length p.bs.length = false := by rw [HP2.out]; exact HF.out
      go_wp2_with fail
      refine (write_no (p := p) ((kk : Int) + 1) hM hp HP1.out.symm ⟨HO1.out, HO2.out⟩ (by omega) hno).mono ?_
      rintro e w3 ⟨rfl, hb3⟩
      have hM3 := hM.new hb3
      have hb4 : But [] w w3 := hbw.trans hb3 (by simp)
      clear hb3
      dsimp only
      go_wp2_with fail
      go_meet
      exact ⟨l, rfl, hM3, HS.out.congr (fun i => (aft_no (by simp)).symm), hb4⟩
    · have hyes : Has off b.length (row rows kk).length = true := HF.out
      simp only [Has, Bool.and_eq_true, decide_eq_true_eq] at hyes
      obtain ⟨o, ho⟩ : ∃ o : Nat, off = o := ⟨off.toNat, by omega⟩
      have hfit : o + b.length ≤ p.bs.length := by rw [HP2.out]; omega
      have HO := Lib.hid ho
      clear ho hyes
      go_wp2_with fail
      refine (write_at (p := p) _ _ o _ _ _ b hM hp HP1.out.symm HO.out (HB.out.but hbw (by simp)) HBB.out rfl hfit).mono ?_
      rintro e w3 ⟨rfl, hM3, L, hb3, hL⟩
      have hb4 : But [] w w3 := hbw.trans hb3 (fun x hx => .inr (hM.low x (mem_row hp (hL x hx))))
      clear hL hb3
      dsimp only
      go_wp2_with fail
      go_meet
      refine ⟨_, rfl, hM3, (HS.out.upd kk _ rfl _).congr (fun i => ?_), hb4⟩
      rw [HO.out, Int.toNat_natCast, HP2.out]
      unfold aft
      by_cases hi : i = kk <;> simp [hi]
  case rest =>
    obtain ⟨l', rfl, hM', hS', hbc⟩ := hcut
    refine (by assumption : ∀ (a : Act) (w1 : World), Code.wp Try.prog _ _ a w1 → _) _ _ ?_
    exact k21 HR HB HRB HBB HO1 HO2 hlb h2 hB1 hB2 hkl hrk4 HF HFO (Lib.hid hS') hM' hbc
noncomputable def code_k19 : Code := dropSeq 7 (Try.f4.body.getD .skip)
set_option maxRecDepth 100000 in
set_option maxHeartbeats 2000000 in
theorem k19 {w : World} {rows : List (List Value)} {which off : Int} {b : List Value} {a0 a3 : Option Addr} {c0 c3 B b0 : Nat} {l : List Part} {wr : World} {u4 u5 u6 u7 u8 u9 u10 u12 u13 u14 u15 u16 u17 u18 u19 u20 u21 u22 u23 u24 u25 u26 u27 u28 u29 u30 u31 u32 u33 u34 u35 u36 u37 u38 u39 u40 u41 u42 u43 u44 u45 u46 u47 u48 u49 u50 u51 u52 u53 u54 u55 u56 u57 u58 u59 u60 u61 u62 u63 u64 u65 u66 u67 u68 u69 u70 u71 u72 u73 u74 u75 u76 u77 u78 u79 u80 u81 u82 u83 u84 u85 u86 u87 u88 u89 u90 u91 u92 u93 u94 u95 u96 u97 u98 u99 u100 u101 u102 u103 u104 u105 u106 u107 u108 u109 u110 u111 u112 u113 u114 u115 u116 u117 u118 u119 u120 u121 u122 u123 u124 u125 u126 u127 u128 u129 u130 u131 u132 u133 u134 u135 u136 u137 u138 u139 u140 u141 u142 u143 u144 u145 u146 u147 u148 u149 u150 u151 u152 u153 u154 u155 u156 u157 u158 u159 u160 u161 u162 u163 u164 u165 u166 u167 u168 u169 u170 u171 u172 u173 u174 u175 u176 u177 u178 u179 u180 u181 u182 u183 u184 u185 u186 u187 u188 u189 u190 u191 u192 u193 u194 u195 u196 u197 u198 u199 u200 u201 u202 u203 u204 u205 u206 u207 u208 u209 u210 u211 u212 u213 u214 u215 u216 u217 u218 u219 u220 u221 u222 u223 u224 u225 u226 u227 u228 u229 u230 u231 u232 u233 u234 u235 u236 u237 u238 u239 u240 u241 u242 u243 u244 u245 u246 u247 u248 : Value} (HR : Hid (∀ k, k < rows.length → ∃ ad a' c', a0 = some ad ∧ w.cell? (ad.add k) = some (.slice a' (row rows k).length c') ∧ Sees w (.slice a' (row rows k).length c') (row rows k))) (HB : Hid (Sees w (.slice a3 b.length c3) b)) (HRB : Hid (∀ r ∈ rows, IsBytes r ∧ r.length ≤ 140737488351232)) (HBB : Hid (IsBytes b)) (HO1 : Hid (-9223372036854775808 ≤ off)) (HO2 : Hid (off ≤ 9223372036854775807)) (hlb : b.length ≤ 20000) (h2 : rows.length ≤ 20) (hB1 : w.heap.size ≤ B) (hB2 : w.heap.size ≤ b0) (HW1 : Hid (-9223372036854775808 ≤ which)) (HW2 : Hid (which ≤ 9223372036854775807)) (h3 : ¬ rows.length = 0) (hS : Shape l rows.length (row rows)) (hM : Mem wr w.heap.size B b0 rows.length l) (hbw : But [] w wr) :
    Code.wp Try.prog code_k19 (bodyPost Try.prog Try.f4 fun e w' => e = .returned (.bool true) ∧ But [] w w') { tmps := List.toArray (.slice a0 rows.length c0 :: .int .i64 which :: .int .i64 off :: .slice a3 b.length c3 :: u4 :: u5 :: u6 :: u7 :: u8 :: u9 :: u10 :: .pointer (some ⟨B, 0, none⟩) :: u12 :: u13 :: u14 :: u15 :: u16 :: u17 :: u18 :: u19 :: u20 :: u21 :: u22 :: u23 :: u24 :: u25 :: u26 :: u27 :: u28 :: u29 :: u30 :: u31 :: u32 :: u33 :: u34 :: u35 :: u36 :: u37 :: u38 :: u39 :: u40 :: u41 :: u42 :: u43 :: u44 :: u45 :: u46 :: u47 :: u48 :: u49 :: u50 :: u51 :: u52 :: u53 :: u54 :: u55 :: u56 :: u57 :: u58 :: u59 :: u60 :: u61 :: u62 :: u63 :: u64 :: u65 :: u66 :: u67 :: u68 :: u69 :: u70 :: u71 :: u72 :: u73 :: u74 :: u75 :: u76 :: u77 :: u78 :: u79 :: u80 :: u81 :: u82 :: u83 :: u84 :: u85 :: u86 :: u87 :: u88 :: u89 :: u90 :: u91 :: u92 :: u93 :: u94 :: u95 :: u96 :: u97 :: u98 :: u99 :: u100 :: u101 :: u102 :: u103 :: u104 :: u105 :: u106 :: u107 :: u108 :: u109 :: u110 :: u111 :: u112 :: u113 :: u114 :: u115 :: u116 :: u117 :: u118 :: u119 :: u120 :: u121 :: u122 :: u123 :: u124 :: u125 :: u126 :: u127 :: u128 :: u129 :: u130 :: u131 :: u132 :: u133 :: u134 :: u135 :: u136 :: u137 :: u138 :: u139 :: u140 :: u141 :: u142 :: u143 :: u144 :: u145 :: u146 :: u147 :: u148 :: u149 :: u150 :: u151 :: u152 :: u153 :: u154 :: u155 :: u156 :: u157 :: u158 :: u159 :: u160 :: u161 :: u162 :: u163 :: u164 :: u165 :: u166 :: u167 :: u168 :: u169 :: u170 :: u171 :: u172 :: u173 :: u174 :: u175 :: u176 :: u177 :: u178 :: u179 :: u180 :: u181 :: u182 :: u183 :: u184 :: u185 :: u186 :: u187 :: u188 :: u189 :: u190 :: u191 :: u192 :: u193 :: u194 :: u195 :: u196 :: u197 :: u198 :: u199 :: u200 :: u201 :: u202 :: u203 :: u204 :: u205 :: u206 :: u207 :: u208 :: u209 :: u210 :: u211 :: u212 :: u213 :: u214 :: u215 :: u216 :: u217 :: u218 :: u219 :: u220 :: u221 :: u222 :: u223 :: u224 :: u225 :: u226 :: u227 :: u228 :: u229 :: u230 :: u231 :: u232 :: u233 :: u234 :: u235 :: u236 :: u237 :: u238 :: u239 :: u240 :: u241 :: u242 :: u243 :: u244 :: u245 :: u246 :: u247 :: u248 :: []), defers := [] } wr := by
  conv => arg 2; whnf
  have hn0 : (rows.length : Int) ≠ 0 := by omega
  obtain ⟨kk, hkk⟩ : ∃ kk : Nat, which % (rows.length : Int) = kk := ⟨(which % (rows.length : Int)).toNat, by have := Int.emod_nonneg which hn0; omega⟩
  have hkl : kk < rows.length := by have := Int.emod_lt_of_pos which (show 0 < (rows.length : Int) by omega); omega
  have HK := Lib.hid hkk
  have HS := Lib.hid hS
  clear hkk hS hn0
  go_upto_region 19 with fail
  go_cut [15] (fun s wx => s = .int .i64 kk ∧ wx = wr)
  case first =>
    go_wp2_with fail
    refine (pick which rows.length _ (by omega) (by omega) HW1.out HW2.out).mono ?_
    rintro e w3 ⟨he, rfl⟩
    rw [HK.out] at he
    subst he
    go_wp2_with fail
    go_meet
    exact ⟨rfl, rfl⟩
  case rest =>
    obtain ⟨rfl, rfl⟩ := hcut
    refine (by assumption : ∀ (a : Act) (w1 : World), Code.wp Try.prog _ _ a w1 → _) _ _ ?_
    exact k20 HR HB HRB HBB HO1 HO2 hlb h2 hB1 hB2 hkl (Lib.hid rfl) HS hM hbw
end Go.Proofs.Ytmleaogklpogdaa.M
