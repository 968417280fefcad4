/-
  RefineNumbers: the walk, a theorem for each loop.
-/
import Derived.Test.YtmbmmcippglfoaaNuR
import Derived.Test.YtmbmmcippglfoaaNuP
import Derived.Test.YtmbmmcippglfoaaTe
namespace Go.Proofs.Ytmbmmcippglfoaa.M
open Go.RowKit Go.Shelf
set_option linter.unusedVariables false
set_option linter.unusedSectionVars false
set_option linter.unusedSimpArgs false

def blockR (n : Nat) : Code → Option Code
  | .block k c => if k = n then some (.block k c) else blockR n c
  | .seq a b => match blockR n a with
    | some c => some c
    | none => blockR n b
  | .loop c => blockR n c
  | .scope c => blockR n c
  | .cond _ a b => match blockR n a with
    | some c => some c
    | none => blockR n b
  | _ => none
theorem num_rem (j n N : Nat) : ((j : Int) * 29 + (n : Int) * 7).tmod (N : Int) = (((j * 29 + n * 7) % N : Nat) : Int) := by
  rw [show (j : Int) * 29 + (n : Int) * 7 = ((j * 29 + n * 7 : Nat) : Int) by push_cast; rfl]
  rfl
theorem wrap_u8n {n : Nat} (h : n < 256) : IntKind.u8.wrap (n : Int) = (n : Int) := by
  simp only [IntKind.wrap, IntKind.signed, IntKind.bits]
  simp
  omega
theorem inc_ok {n k : Nat} (h : n < 1000) (hk : k < 1000) : wrap64 ((n : Int) + (k : Int)) = (n : Int) + (k : Int) := by unfold wrap64; omega
theorem inc1 {n : Nat} (h : n < 1000) : wrap64 ((n : Int) + 1) = (n : Int) + 1 := inc_ok (k := 1) h (by decide)
theorem inc2 {n : Nat} (h : n < 1000) : wrap64 ((n : Int) + 2) = (n : Int) + 2 := inc_ok (k := 2) h (by decide)
theorem mz16 {o : Nat} (h : o < 16) : ((16 : Int) - intOf (Value.int .i64 (wrap64 ((o : Int) + 1)))).toNat < ((16 : Int) - intOf (Value.int .i64 (o : Int))).toNat := by rw [inc1 (Nat.lt_trans h (by decide) : o < 1000)]; simp only [intOf]; omega
theorem mz14 {o : Nat} (h : o < 14) : ((14 : Int) - intOf (Value.int .i64 (wrap64 ((o : Int) + 1)))).toNat < ((14 : Int) - intOf (Value.int .i64 (o : Int))).toNat := by rw [inc1 (Nat.lt_trans h (by decide) : o < 1000)]; simp only [intOf]; omega
theorem mz10 {o : Nat} (h : o < 10) : ((10 : Int) - intOf (Value.int .i64 (wrap64 ((o : Int) + 1)))).toNat < ((10 : Int) - intOf (Value.int .i64 (o : Int))).toNat := by rw [inc1 (Nat.lt_trans h (by decide) : o < 1000)]; simp only [intOf]; omega
theorem mz11 {o : Nat} (h : o < 10) : ((11 : Int) - intOf (Value.int .i64 (wrap64 ((o : Int) + 2)))).toNat < ((11 : Int) - intOf (Value.int .i64 (o : Int))).toNat := by rw [inc2 (Nat.lt_trans h (by decide) : o < 1000)]; simp only [intOf]; omega
theorem mzN {o N : Nat} (h : o < N) (hN : N ≤ 402) : ((N : Int) - intOf (Value.int .i64 (wrap64 ((o : Int) + 1)))).toNat < ((N : Int) - intOf (Value.int .i64 (o : Int))).toNat := by rw [inc1 (by omega : o < 1000)]; simp only [intOf]; omega
theorem l16 {n : Nat} (h : n < 16) : (n : Int) < 16 := by omega
theorem l14 {n : Nat} (h : n < 14) : (n : Int) < 14 := by omega
theorem l10 {n : Nat} (h : n < 10) : (n : Int) < 10 := by omega
theorem n10 {n : Nat} (h : ¬ n < 10) : ¬ (n : Int) < 10 := by omega
theorem kl_a {j q : Nat} (h : q ≤ 11) : 40 * j + 1 + 3 * q ≤ 40 * (j + 1) := by omega
theorem kl_b {j q : Nat} : 40 * j + 1 + 3 * q + 3 ≤ 40 * j + 1 + 3 * (q + 2) := by omega
theorem kl_c {j : Nat} : 40 * j + 1 ≤ 40 * j + 1 + 3 * (j + 1) := by omega
theorem kl_d {n j q : Nat} (h : n ≤ 40 * j + 1 + 3 * q) (hj : j < 10) (hq : q < 10) : n ≤ 1024 := by omega
theorem kl_e {n j : Nat} (h : n ≤ 40 * j) (hj : j < 10) : n ≤ 1024 := by omega
theorem nu_idx {j n N : Nat} (hj : j < N) (hn : n < 14) (h0 : 0 < N) (h1 : N ≤ 402) : ∃ r : Nat, r < N ∧ wrap64 ((j : Int) * 29) = (j : Int) * 29 ∧ wrap64 ((n : Int) * 7) = (n : Int) * 7 ∧ wrap64 ((j : Int) * 29 + (n : Int) * 7) = (j : Int) * 29 + (n : Int) * 7 ∧ ((j : Int) * 29 + (n : Int) * 7).tmod (N : Int) = (r : Int) ∧ ((N : Int) == 0) = false ∧ (0 : Int) ≤ (r : Int) ∧ (r : Int) < (N : Int) := by
  refine ⟨(j * 29 + n * 7) % N, Nat.mod_lt _ h0, by unfold wrap64; omega, by unfold wrap64; omega, by unfold wrap64; omega, num_rem j n N, by rw [beq_eq_false_iff_ne]; omega, by omega, ?_⟩
  have := Nat.mod_lt (j * 29 + n * 7) h0
  omega
theorem nu_shl {o : Nat} (h : o < 16) : IntKind.i64.wrap ((o : Int) * 16) = ((o * 16 : Nat) : Int) ∧ IntKind.u8.wrap ((o * 16 : Nat) : Int) = ((o * 16 : Nat) : Int) ∧ o * 16 < 256 := ⟨by rw [IntKind.wrap_i64]; omega, wrap_u8n (by omega), by omega⟩
theorem cast_lt {a b : Nat} (h : a < b) : (a : Int) < (b : Int) := by omega
theorem cast_nn (a : Nat) : (0 : Int) ≤ (a : Int) := by omega
noncomputable def code_nl5 : Code := ((Try.f4.body.getD .skip |> blockR 8).getD .skip)
set_option maxRecDepth 100000 in
set_option maxHeartbeats 8000000 in
theorem nl5 (Q : Exit → Act → World → Prop) {wr : World} {g N c5 j n bb : Nat} {xv xm xl xh yv ym yl yh : Nat} {xi xj yi yj : Int} (HJ0 : Hid ((0 : Int) ≤ (j : Int))) (HJ1 : Hid ((j : Int) < (N : Int))) (HREC : Hid (∀ w9, But [] wr w9 → w9.cell? ⟨g, j * 6, none⟩ = some (.int .u64 xv) ∧ w9.cell? ⟨g, j * 6 + 1, none⟩ = some (.int .u64 xm) ∧ w9.cell? ⟨g, j * 6 + 2, none⟩ = some (.int .u64 xl) ∧ w9.cell? ⟨g, j * 6 + 3, none⟩ = some (.int .u64 xh) ∧ w9.cell? ⟨g, j * 6 + 4, none⟩ = some (.int .i64 xi) ∧ w9.cell? ⟨g, j * 6 + 5, none⟩ = some (.int .i64 xj))) (HRX : Hid (Rg ⟨⟨xv, xm⟩, ⟨xl, xh, xi, xj⟩⟩)) (HRY : Hid (Rg ⟨⟨yv, ym⟩, ⟨yl, yh, yi, yj⟩⟩)) (HBB : Hid (wr.heap[bb]? = some (.cells #[.int .u64 yv, .int .u64 ym, .int .u64 yl, .int .u64 yh, .int .i64 yi, .int .i64 yj] 28))) {u0 u2 u3 u4 u5 u6 u7 u8 u9 u10 u15 u16 u17 u18 u19 u20 u21 u22 u23 u24 u25 u26 u27 u28 u29 u30 u31 u32 u33 u34 u35 u36 u37 u38 u39 u40 u41 u42 u43 u44 u45 u46 u47 u48 u49 u50 u51 u52 u53 u54 u55 u56 u57 u58 u59 u60 u61 u62 u63 u64 u65 u66 u67 u68 u69 u70 u71 u72 u73 u74 u75 u76 u77 u78 u79 u80 u81 u82 u83 u84 u85 u86 u87 u88 u89 u90 u91 u92 u93 u94 u95 u96 u97 u98 u99 u100 u101 u102 u103 u104 u105 u106 u107 u108 u109 u110 u111 u112 u113 u114 u115 u116 u117 u118 u119 u120 u121 u122 u123 u124 u125 u126 u127 u128 u129 u130 u131 u132 u133 u134 u135 u136 u137 u138 u139 u140 u141 u142 u143 u144 u145 u146 u147 u148 u149 u150 u151 u152 u153 u154 u155 u156 u157 u158 u159 u160 u161 u162 u163 u164 u165 u166 u167 u168 u169 u170 u171 u172 u173 u174 u175 u176 u177 u178 u179 u180 u181 u182 u183 u184 u185 u186 u187 u188 u189 u190 u191 u192 u193 u194 u195 u196 u197 : Value} (hQ : ∀ (z0 z14 z143 z144 z145 z146 z147 z148 z149 z150 z151 z152 z153 z154 z155 z156 z157 z158 z159 z160 z161 z162 : Value) (w9 : World) , But [] wr w9 → Q .normal { tmps := List.toArray (z0::.slice (some ⟨g, 0, none⟩) N c5::u2::u3::u4::u5::u6::u7::u8::u9::u10::.int .i64 (j : Int)::.int .i64 (n : Int)::.pointer (some ⟨bb, 0, none⟩)::z14::u15::u16::u17::u18::u19::u20::u21::u22::u23::u24::u25::u26::u27::u28::u29::u30::u31::u32::u33::u34::u35::u36::u37::u38::u39::u40::u41::u42::u43::u44::u45::u46::u47::u48::u49::u50::u51::u52::u53::u54::u55::u56::u57::u58::u59::u60::u61::u62::u63::u64::u65::u66::u67::u68::u69::u70::u71::u72::u73::u74::u75::u76::u77::u78::u79::u80::u81::u82::u83::u84::u85::u86::u87::u88::u89::u90::u91::u92::u93::u94::u95::u96::u97::u98::u99::u100::u101::u102::u103::u104::u105::u106::u107::u108::u109::u110::u111::u112::u113::u114::u115::u116::u117::u118::u119::u120::u121::u122::u123::u124::u125::u126::u127::u128::u129::u130::u131::u132::u133::u134::u135::u136::u137::u138::u139::u140::u141::u142::z143::z144::z145::z146::z147::z148::z149::z150::z151::z152::z153::z154::z155::z156::z157::z158::z159::z160::z161::z162::u163::u164::u165::u166::u167::u168::u169::u170::u171::u172::u173::u174::u175::u176::u177::u178::u179::u180::u181::u182::u183::u184::u185::u186::u187::u188::u189::u190::u191::u192::u193::u194::u195::u196::u197::[]), defers := [] } w9) :
    Code.wp Try.prog code_nl5 Q { tmps := List.toArray (u0::.slice (some ⟨g, 0, none⟩) N c5::u2::u3::u4::u5::u6::u7::u8::u9::u10::.int .i64 (j : Int)::.int .i64 (n : Int)::.pointer (some ⟨bb, 0, none⟩)::.int .i64 0::u15::u16::u17::u18::u19::u20::u21::u22::u23::u24::u25::u26::u27::u28::u29::u30::u31::u32::u33::u34::u35::u36::u37::u38::u39::u40::u41::u42::u43::u44::u45::u46::u47::u48::u49::u50::u51::u52::u53::u54::u55::u56::u57::u58::u59::u60::u61::u62::u63::u64::u65::u66::u67::u68::u69::u70::u71::u72::u73::u74::u75::u76::u77::u78::u79::u80::u81::u82::u83::u84::u85::u86::u87::u88::u89::u90::u91::u92::u93::u94::u95::u96::u97::u98::u99::u100::u101::u102::u103::u104::u105::u106::u107::u108::u109::u110::u111::u112::u113::u114::u115::u116::u117::u118::u119::u120::u121::u122::u123::u124::u125::u126::u127::u128::u129::u130::u131::u132::u133::u134::u135::u136::u137::u138::u139::u140::u141::u142::u143::u144::u145::u146::u147::u148::u149::u150::u151::u152::u153::u154::u155::u156::u157::u158::u159::u160::u161::u162::u163::u164::u165::u166::u167::u168::u169::u170::u171::u172::u173::u174::u175::u176::u177::u178::u179::u180::u181::u182::u183::u184::u185::u186::u187::u188::u189::u190::u191::u192::u193::u194::u195::u196::u197::[]), defers := [] } wr := by
  have HQF := Lib.hid hQ
  clear hQ
  conv => arg 2; whnf
  obtain ⟨r3, hr3⟩ : ∃ x, x = ((n : Int)).tmod 3 := ⟨_, rfl⟩
  obtain ⟨r2, hr2⟩ : ∃ x, x = ((n : Int)).tmod 2 := ⟨_, rfl⟩
  have H151 := Lib.hid hr3.symm
  have H159 := Lib.hid hr2.symm
  clear hr3 hr2
  go_wp2_with fail
  rename World => wb
  go_loopw [14] (fun i wr => ∃ o : Nat, o ≤ 16 ∧ i = .int .i64 (o : Int) ∧ But [] wb wr) (fun i wr => (16 - intOf i).toNat)
  case atStart => exact ⟨0, by omega, rfl, But.refl _ _⟩
  case round =>
    rename World => wo
    obtain ⟨o, ho, rfl, hb⟩ := hrel
    have HBT := Lib.hid hb
    have HYO := Lib.hid (hb.heap HBB.out (by simp))
    have HRE2 : Hid (∀ w9, But [] wo w9 → w9.cell? ⟨g, j * 6, none⟩ = some (.int .u64 xv) ∧ w9.cell? ⟨g, j * 6 + 1, none⟩ = some (.int .u64 xm) ∧ w9.cell? ⟨g, j * 6 + 2, none⟩ = some (.int .u64 xl) ∧ w9.cell? ⟨g, j * 6 + 3, none⟩ = some (.int .u64 xh) ∧ w9.cell? ⟨g, j * 6 + 4, none⟩ = some (.int .i64 xi) ∧ w9.cell? ⟨g, j * 6 + 5, none⟩ = some (.int .i64 xj)) := Lib.hid (fun w9 h9 => HREC.out w9 (hb.trans h9 (by simp)))
    clear hb
    have HO := Lib.hid ho
    clear ho
    by_cases h16 : o = 16
    · subst h16
      go_wp2_with fail
      exact HQF.out _ _ _ _ _ _ _ _ _ _ _ _ _ _ _ _ _ _ _ _ _ _ _ HBT.out
    have HOO : Hid (o < 16) := Lib.hid (Nat.lt_of_le_of_ne HO.out h16)
    have hoi : (o : Int) < 16 := l16 HOO.out
    have H148 := Lib.hid (nu_shl HOO.out).1
    have H149 := Lib.hid (nu_shl HOO.out).2.1
    have HT := Lib.hid (fun w => tells_c (o * 16) (decide (r3 > 0)) (r2 == 0) xv xm xl xh yv ym yl yh xi xj yi yj w (nu_shl HOO.out).2.2 HRX.out HRY.out)
    clear h16
    go_wp2_with fail
    refine nu27 _ HJ0 HJ1 H148 H149 H151 (Lib.hid rfl) H159 (Lib.hid rfl) HRE2 HYO HT ?_
    intro _ _ _ _ _ _ _ _ _ _ _ _ _ _ _ w9 hb
    have HB9 := Lib.hid (HBT.out.trans hb (by simp))
    have hinc := inc1 (Nat.lt_trans HOO.out (by decide) : o < 1000)
    clear hb hoi
    go_wp2_with fail
    go_roundw
    case rel => exact ⟨o + 1, HOO.out, by simp [hinc], HB9.out⟩
    case measure => exact mz16 HOO.out
noncomputable def code_nl4 : Code := ((Try.f4.body.getD .skip |> blockR 6).getD .skip)
set_option maxRecDepth 100000 in
set_option maxHeartbeats 8000000 in
theorem nl4 (Q : Exit → Act → World → Prop) {wr : World} {g N c5 j : Nat} {L : List Sc} {xv xm xl xh : Nat} {xi xj : Int} (HJ0 : Hid ((0 : Int) ≤ (j : Int))) (HJ1 : Hid ((j : Int) < (N : Int))) (HL : Hid (OwnS wr 28 (.slice (some ⟨g, 0, none⟩) N c5) L ∧ (∀ x ∈ L, Rg x) ∧ L.length = N ∧ 0 < N ∧ N ≤ 402)) (HX : Hid (L[j]? = some ⟨⟨xv, xm⟩, ⟨xl, xh, xi, xj⟩⟩)) (HRX : Hid (Rg ⟨⟨xv, xm⟩, ⟨xl, xh, xi, xj⟩⟩)) (HJL : Hid (j < N)) {u0 u2 u3 u4 u5 u6 u7 u8 u9 u10 u13 u14 u15 u16 u17 u18 u19 u20 u21 u22 u23 u24 u25 u26 u27 u28 u29 u30 u31 u32 u33 u34 u35 u36 u37 u38 u39 u40 u41 u42 u43 u44 u45 u46 u47 u48 u49 u50 u51 u52 u53 u54 u55 u56 u57 u58 u59 u60 u61 u62 u63 u64 u65 u66 u67 u68 u69 u70 u71 u72 u73 u74 u75 u76 u77 u78 u79 u80 u81 u82 u83 u84 u85 u86 u87 u88 u89 u90 u91 u92 u93 u94 u95 u96 u97 u98 u99 u100 u101 u102 u103 u104 u105 u106 u107 u108 u109 u110 u111 u112 u113 u114 u115 u116 u117 u118 u119 u120 u121 u122 u123 u124 u125 u126 u127 u128 u129 u130 u131 u132 u133 u134 u135 u136 u137 u138 u139 u140 u141 u142 u143 u144 u145 u146 u147 u148 u149 u150 u151 u152 u153 u154 u155 u156 u157 u158 u159 u160 u161 u162 u163 u164 u165 u166 u167 u168 u169 u170 u171 u172 u173 u174 u175 u176 u177 u178 u179 u180 u181 u182 u183 u184 u185 u186 u187 u188 u189 u190 u191 u192 u193 u194 u195 u196 u197 : Value} (hQ : ∀ (z0 z12 z13 z14 z128 z129 z130 z131 z132 z133 z134 z135 z136 z137 z138 z139 z140 z141 z142 z143 z144 z145 z146 z147 z148 z149 z150 z151 z152 z153 z154 z155 z156 z157 z158 z159 z160 z161 z162 : Value) (w9 : World) , But [] wr w9 → Q .normal { tmps := List.toArray (z0::.slice (some ⟨g, 0, none⟩) N c5::u2::u3::u4::u5::u6::u7::u8::u9::u10::.int .i64 (j : Int)::z12::z13::z14::u15::u16::u17::u18::u19::u20::u21::u22::u23::u24::u25::u26::u27::u28::u29::u30::u31::u32::u33::u34::u35::u36::u37::u38::u39::u40::u41::u42::u43::u44::u45::u46::u47::u48::u49::u50::u51::u52::u53::u54::u55::u56::u57::u58::u59::u60::u61::u62::u63::u64::u65::u66::u67::u68::u69::u70::u71::u72::u73::u74::u75::u76::u77::u78::u79::u80::u81::u82::u83::u84::u85::u86::u87::u88::u89::u90::u91::u92::u93::u94::u95::u96::u97::u98::u99::u100::u101::u102::u103::u104::u105::u106::u107::u108::u109::u110::u111::u112::u113::u114::u115::u116::u117::u118::u119::u120::u121::u122::u123::u124::u125::u126::u127::z128::z129::z130::z131::z132::z133::z134::z135::z136::z137::z138::z139::z140::z141::z142::z143::z144::z145::z146::z147::z148::z149::z150::z151::z152::z153::z154::z155::z156::z157::z158::z159::z160::z161::z162::u163::u164::u165::u166::u167::u168::u169::u170::u171::u172::u173::u174::u175::u176::u177::u178::u179::u180::u181::u182::u183::u184::u185::u186::u187::u188::u189::u190::u191::u192::u193::u194::u195::u196::u197::[]), defers := [] } w9) :
    Code.wp Try.prog code_nl4 Q { tmps := List.toArray (u0::.slice (some ⟨g, 0, none⟩) N c5::u2::u3::u4::u5::u6::u7::u8::u9::u10::.int .i64 (j : Int)::.int .i64 0::u13::u14::u15::u16::u17::u18::u19::u20::u21::u22::u23::u24::u25::u26::u27::u28::u29::u30::u31::u32::u33::u34::u35::u36::u37::u38::u39::u40::u41::u42::u43::u44::u45::u46::u47::u48::u49::u50::u51::u52::u53::u54::u55::u56::u57::u58::u59::u60::u61::u62::u63::u64::u65::u66::u67::u68::u69::u70::u71::u72::u73::u74::u75::u76::u77::u78::u79::u80::u81::u82::u83::u84::u85::u86::u87::u88::u89::u90::u91::u92::u93::u94::u95::u96::u97::u98::u99::u100::u101::u102::u103::u104::u105::u106::u107::u108::u109::u110::u111::u112::u113::u114::u115::u116::u117::u118::u119::u120::u121::u122::u123::u124::u125::u126::u127::u128::u129::u130::u131::u132::u133::u134::u135::u136::u137::u138::u139::u140::u141::u142::u143::u144::u145::u146::u147::u148::u149::u150::u151::u152::u153::u154::u155::u156::u157::u158::u159::u160::u161::u162::u163::u164::u165::u166::u167::u168::u169::u170::u171::u172::u173::u174::u175::u176::u177::u178::u179::u180::u181::u182::u183::u184::u185::u186::u187::u188::u189::u190::u191::u192::u193::u194::u195::u196::u197::[]), defers := [] } wr := by
  have HQF := Lib.hid hQ
  clear hQ
  conv => arg 2; whnf
  go_wp2_with fail
  rename World => wq
  go_loopw [12] (fun i wr => ∃ n : Nat, n ≤ 14 ∧ i = .int .i64 (n : Int) ∧ But [] wq wr) (fun i wr => (14 - intOf i).toNat)
  case atStart => exact ⟨0, by omega, rfl, But.refl _ _⟩
  case round =>
    rename World => wn
    obtain ⟨n, hn, rfl, hb⟩ := hrel
    have HBN := Lib.hid hb
    have HREC : Hid (∀ w9, But [] wn w9 → w9.cell? ⟨g, j * 6, none⟩ = some (.int .u64 xv) ∧ w9.cell? ⟨g, j * 6 + 1, none⟩ = some (.int .u64 xm) ∧ w9.cell? ⟨g, j * 6 + 2, none⟩ = some (.int .u64 xl) ∧ w9.cell? ⟨g, j * 6 + 3, none⟩ = some (.int .u64 xh) ∧ w9.cell? ⟨g, j * 6 + 4, none⟩ = some (.int .i64 xi) ∧ w9.cell? ⟨g, j * 6 + 5, none⟩ = some (.int .i64 xj)) := Lib.hid (fun w9 h9 => ((HL.out.1.but (hb.trans h9 (by simp)) (by simp)).at6 HX.out))
    clear hb
    have HN4 := Lib.hid hn
    clear hn
    by_cases h14 : n = 14
    · subst h14
      go_wp2_with fail
      exact HQF.out _ _ _ _ _ _ _ _ _ _ _ _ _ _ _ _ _ _ _ _ _ _ _ _ _ _ _ _ _ _ _ _ _ _ _ _ _ _ _ _ HBN.out
    have HNN : Hid (n < 14) := Lib.hid (Nat.lt_of_le_of_ne HN4.out h14)
    have hni : (n : Int) < 14 := l14 HNN.out
    obtain ⟨r, hrN, g1, g2, g3, g4, g5, g6, g7⟩ := nu_idx HJL.out HNN.out HL.out.2.2.2.1 HL.out.2.2.2.2
    obtain ⟨⟨⟨yv, ym⟩, ⟨yl, yh, yi, yj⟩⟩, hy⟩ : ∃ x, L[r]? = some x := ⟨L[r]'(by rw [HL.out.2.2.1]; exact hrN), List.getElem?_eq_getElem _⟩
    have HRY := Lib.hid (HL.out.2.1 _ (List.mem_of_getElem? hy))
    obtain ⟨y0, y1, y2, y3, y4, y5⟩ : wn.cell? ⟨g, r * 6, none⟩ = some (.int .u64 yv) ∧ wn.cell? ⟨g, r * 6 + 1, none⟩ = some (.int .u64 ym) ∧ wn.cell? ⟨g, r * 6 + 2, none⟩ = some (.int .u64 yl) ∧ wn.cell? ⟨g, r * 6 + 3, none⟩ = some (.int .u64 yh) ∧ wn.cell? ⟨g, r * 6 + 4, none⟩ = some (.int .i64 yi) ∧ wn.cell? ⟨g, r * 6 + 5, none⟩ = some (.int .i64 yj) := (HL.out.1.but HBN.out (by simp)).at6 hy
    clear hy hrN h14
    go_upto_region 24 with (fail)
    generalize hw : World.alloc wn _ = wb
    have HY : Hid (wb.heap[wn.heap.size]? = some (.cells #[.int .u64 yv, .int .u64 ym, .int .u64 yl, .int .u64 yh, .int .i64 yi, .int .i64 yj] 28)) := Lib.hid (by rw [← hw]; exact al_at _ _)
    have HB6 : Hid (But [] wn wb) := Lib.hid (by rw [← hw]; exact (But.refl [] wn).alloc _)
    clear hw y0 y1 y2 y3 y4 y5 g1 g2 g3 g4 g5 g6 g7 hni
    have HRE2 : Hid (∀ w9, But [] wb w9 → w9.cell? ⟨g, j * 6, none⟩ = some (.int .u64 xv) ∧ w9.cell? ⟨g, j * 6 + 1, none⟩ = some (.int .u64 xm) ∧ w9.cell? ⟨g, j * 6 + 2, none⟩ = some (.int .u64 xl) ∧ w9.cell? ⟨g, j * 6 + 3, none⟩ = some (.int .u64 xh) ∧ w9.cell? ⟨g, j * 6 + 4, none⟩ = some (.int .i64 xi) ∧ w9.cell? ⟨g, j * 6 + 5, none⟩ = some (.int .i64 xj)) := Lib.hid (fun w9 h9 => HREC.out w9 (HB6.out.trans h9 (by simp)))
    go_upto_block 8 with (fail)
    refine nl5 _ HJ0 HJ1 HRE2 HRX HRY HY ?_
    intro _ _ _ _ _ _ _ _ _ _ _ _ _ _ _ _ _ _ _ _ _ _ w9 hb
    have HB9 := Lib.hid ((HBN.out.trans HB6.out (by simp)).trans hb (by simp))
    have hinc := inc1 (Nat.lt_trans HNN.out (by decide) : n < 1000)
    clear hb
    go_wp2_with fail
    go_roundw
    case rel => exact ⟨n + 1, HNN.out, by simp [hinc], HB9.out⟩
    case measure => exact mz14 HNN.out
noncomputable def code_nl3 : Code := ((Try.f4.body.getD .skip |> blockR 4).getD .skip)
set_option maxRecDepth 100000 in
set_option maxHeartbeats 8000000 in
theorem nl3 (Q : Exit → Act → World → Prop) {wr : World} {g N c5 : Nat} {L : List Sc} (HL : Hid (OwnS wr 28 (.slice (some ⟨g, 0, none⟩) N c5) L ∧ (∀ x ∈ L, Rg x) ∧ L.length = N ∧ 0 < N ∧ N ≤ 402)) {u0 u2 u3 u4 u5 u6 u7 u8 u9 u10 u12 u13 u14 u15 u16 u17 u18 u19 u20 u21 u22 u23 u24 u25 u26 u27 u28 u29 u30 u31 u32 u33 u34 u35 u36 u37 u38 u39 u40 u41 u42 u43 u44 u45 u46 u47 u48 u49 u50 u51 u52 u53 u54 u55 u56 u57 u58 u59 u60 u61 u62 u63 u64 u65 u66 u67 u68 u69 u70 u71 u72 u73 u74 u75 u76 u77 u78 u79 u80 u81 u82 u83 u84 u85 u86 u87 u88 u89 u90 u91 u92 u93 u94 u95 u96 u97 u98 u99 u100 u101 u102 u103 u104 u105 u106 u107 u108 u109 u110 u111 u112 u113 u114 u115 u116 u117 u118 u119 u120 u121 u122 u123 u124 u125 u126 u127 u128 u129 u130 u131 u132 u133 u134 u135 u136 u137 u138 u139 u140 u141 u142 u143 u144 u145 u146 u147 u148 u149 u150 u151 u152 u153 u154 u155 u156 u157 u158 u159 u160 u161 u162 u163 u164 u165 u166 u167 u168 u169 u170 u171 u172 u173 u174 u175 u176 u177 u178 u179 u180 u181 u182 u183 u184 u185 u186 u187 u188 u189 u190 u191 u192 u193 u194 u195 u196 u197 : Value} (hQ : ∀ (z0 z11 z12 z13 z14 z122 z123 z124 z125 z126 z127 z128 z129 z130 z131 z132 z133 z134 z135 z136 z137 z138 z139 z140 z141 z142 z143 z144 z145 z146 z147 z148 z149 z150 z151 z152 z153 z154 z155 z156 z157 z158 z159 z160 z161 z162 z163 z164 z165 z166 z167 z168 z169 z170 z171 z172 z173 z174 z175 z176 z177 z178 z179 z180 z181 z182 z183 z184 z185 z186 z187 z188 z189 z190 z191 z192 z193 z194 z195 z196 : Value) (w9 : World) , But [] wr w9 → Q .normal { tmps := List.toArray (z0::.slice (some ⟨g, 0, none⟩) N c5::u2::u3::u4::u5::u6::u7::u8::u9::u10::z11::z12::z13::z14::u15::u16::u17::u18::u19::u20::u21::u22::u23::u24::u25::u26::u27::u28::u29::u30::u31::u32::u33::u34::u35::u36::u37::u38::u39::u40::u41::u42::u43::u44::u45::u46::u47::u48::u49::u50::u51::u52::u53::u54::u55::u56::u57::u58::u59::u60::u61::u62::u63::u64::u65::u66::u67::u68::u69::u70::u71::u72::u73::u74::u75::u76::u77::u78::u79::u80::u81::u82::u83::u84::u85::u86::u87::u88::u89::u90::u91::u92::u93::u94::u95::u96::u97::u98::u99::u100::u101::u102::u103::u104::u105::u106::u107::u108::u109::u110::u111::u112::u113::u114::u115::u116::u117::u118::u119::u120::u121::z122::z123::z124::z125::z126::z127::z128::z129::z130::z131::z132::z133::z134::z135::z136::z137::z138::z139::z140::z141::z142::z143::z144::z145::z146::z147::z148::z149::z150::z151::z152::z153::z154::z155::z156::z157::z158::z159::z160::z161::z162::z163::z164::z165::z166::z167::z168::z169::z170::z171::z172::z173::z174::z175::z176::z177::z178::z179::z180::z181::z182::z183::z184::z185::z186::z187::z188::z189::z190::z191::z192::z193::z194::z195::z196::u197::[]), defers := [] } w9) :
    Code.wp Try.prog code_nl3 Q { tmps := List.toArray (u0::.slice (some ⟨g, 0, none⟩) N c5::u2::u3::u4::u5::u6::u7::u8::u9::u10::.int .i64 0::u12::u13::u14::u15::u16::u17::u18::u19::u20::u21::u22::u23::u24::u25::u26::u27::u28::u29::u30::u31::u32::u33::u34::u35::u36::u37::u38::u39::u40::u41::u42::u43::u44::u45::u46::u47::u48::u49::u50::u51::u52::u53::u54::u55::u56::u57::u58::u59::u60::u61::u62::u63::u64::u65::u66::u67::u68::u69::u70::u71::u72::u73::u74::u75::u76::u77::u78::u79::u80::u81::u82::u83::u84::u85::u86::u87::u88::u89::u90::u91::u92::u93::u94::u95::u96::u97::u98::u99::u100::u101::u102::u103::u104::u105::u106::u107::u108::u109::u110::u111::u112::u113::u114::u115::u116::u117::u118::u119::u120::u121::u122::u123::u124::u125::u126::u127::u128::u129::u130::u131::u132::u133::u134::u135::u136::u137::u138::u139::u140::u141::u142::u143::u144::u145::u146::u147::u148::u149::u150::u151::u152::u153::u154::u155::u156::u157::u158::u159::u160::u161::u162::u163::u164::u165::u166::u167::u168::u169::u170::u171::u172::u173::u174::u175::u176::u177::u178::u179::u180::u181::u182::u183::u184::u185::u186::u187::u188::u189::u190::u191::u192::u193::u194::u195::u196::u197::[]), defers := [] } wr := by
  have HQF := Lib.hid hQ
  clear hQ
  conv => arg 2; whnf
  go_wp2_with fail
  rename World => w5
  go_loopw [11] (fun i wr => ∃ j : Nat, j ≤ N ∧ i = .int .i64 (j : Int) ∧ But [] w5 wr) (fun i wr => ((N : Int) - intOf i).toNat)
  case atStart => exact ⟨0, Nat.zero_le _, rfl, But.refl _ _⟩
  case round =>
    rename World => wq
    obtain ⟨j, hj, rfl, hb⟩ := hrel
    have HBQ := Lib.hid hb
    have HLQ : Hid (OwnS wq 28 (.slice (some ⟨g, 0, none⟩) N c5) L ∧ (∀ x ∈ L, Rg x) ∧ L.length = N ∧ 0 < N ∧ N ≤ 402) := Lib.hid ⟨HL.out.1.but hb (by simp), HL.out.2⟩
    clear hb
    have HJ := Lib.hid hj
    clear hj
    by_cases hjN : j = N
    · subst hjN
      go_wp2_with fail
      exact HQF.out _ _ _ _ _ _ _ _ _ _ _ _ _ _ _ _ _ _ _ _ _ _ _ _ _ _ _ _ _ _ _ _ _ _ _ _ _ _ _ _ _ _ _ _ _ _ _ _ _ _ _ _ _ _ _ _ _ _ _ _ _ _ _ _ _ _ _ _ _ _ _ _ _ _ _ _ _ _ _ _ _ HBQ.out
    have HJL : Hid (j < N) := Lib.hid (Nat.lt_of_le_of_ne HJ.out hjN)
    obtain ⟨⟨⟨xv, xm⟩, ⟨xl, xh, xi, xj⟩⟩, hx⟩ : ∃ x, L[j]? = some x := ⟨L[j]'(by rw [HL.out.2.2.1]; exact HJL.out), List.getElem?_eq_getElem _⟩
    have HRX := Lib.hid (HL.out.2.1 _ (List.mem_of_getElem? hx))
    have HX := Lib.hid hx
    have hlt3 : (j : Int) < (N : Int) := cast_lt HJL.out
    have HJ0 := Lib.hid (cast_nn j)
    have HJ1 := Lib.hid hlt3
    clear hx hjN
    go_upto_block 6 with (fail)
    clear hlt3
    refine nl4 _ HJ0 HJ1 HLQ HX HRX HJL ?_
    intro _ _ _ _ _ _ _ _ _ _ _ _ _ _ _ _ _ _ _ _ _ _ _ _ _ _ _ _ _ _ _ _ _ _ _ _ _ _ _ wn hb
    have HBN := Lib.hid (HBQ.out.trans hb (by simp))
    have HREC : Hid (∀ w9, But [] wn w9 → w9.cell? ⟨g, j * 6, none⟩ = some (.int .u64 xv) ∧ w9.cell? ⟨g, j * 6 + 1, none⟩ = some (.int .u64 xm) ∧ w9.cell? ⟨g, j * 6 + 2, none⟩ = some (.int .u64 xl) ∧ w9.cell? ⟨g, j * 6 + 3, none⟩ = some (.int .u64 xh) ∧ w9.cell? ⟨g, j * 6 + 4, none⟩ = some (.int .i64 xi) ∧ w9.cell? ⟨g, j * 6 + 5, none⟩ = some (.int .i64 xj)) := Lib.hid (fun w9 h9 => ((HLQ.out.1.but (hb.trans h9 (by simp)) (by simp)).at6 HX.out))
    clear hb
    have HT1 := Lib.hid (fun w => tells_c 1 true false xv xm xl xh xv xm xl xh xi xj xi xj w (by decide) HRX.out HRX.out)
    have HT64 := Lib.hid (fun w => tells_c 64 true false xv xm xl xh xv xm xl xh xi xj xi xj w (by decide) HRX.out HRX.out)
    have HT80 := Lib.hid (fun w => tells_c 80 true true xv xm xl xh xv xm xl xh xi xj xi xj w (by decide) HRX.out HRX.out)
    go_wp2_with fail
    refine nu29 _ HJ0 HJ1 HREC HT1 HT64 HT80 ?_
    intro _ _ _ _ _ _ _ _ _ _ _ _ _ _ _ _ _ _ _ _ _ _ _ _ _ _ _ _ _ _ _ _ _ w9 hb
    have HB9 := Lib.hid (HBN.out.trans hb (by simp))
    have hinc := inc1 (Nat.lt_of_lt_of_le HJL.out (Nat.le_trans HL.out.2.2.2.2 (by decide)) : j < 1000)
    clear hb
    go_wp2_with fail
    go_roundw
    case rel => exact ⟨j + 1, HJL.out, by simp [hinc], HB9.out⟩
    case measure => exact mzN HJL.out HL.out.2.2.2.2
noncomputable def code_nl2 : Code := ((Try.f4.body.getD .skip |> blockR 2).getD .skip)
set_option maxRecDepth 100000 in
set_option maxHeartbeats 8000000 in
theorem nl2 (Q : Exit → Act → World → Prop) {wr : World} {w2 : World} {i0 : TypeInfo} {NB j : Nat} {a0 : Option Addr} {c0 : Nat} {l0 : List Sc} (HI : Hid (Try.prog.info? 28 = some i0)) (HZ0 : Hid (i0.zero = some (.agg #[.int .u64 0, .int .u64 0, .int .u64 0, .int .u64 0, .int .i64 0, .int .i64 0]))) (HZ1 : Hid (i0.size = 6)) (HZ2 : Hid (i0.bytes = 48)) (HN : Hid (w2.heap[NB]? = some (.cells numCells 22))) (HJL : Hid (j < 10)) (HK : Hid (KL w2 wr (.slice a0 l0.length c0) l0 (40 * j + 1 + 3 * (j + 1)))) {u0 u5 u6 u7 u8 u9 u10 u11 u12 u13 u14 u15 u16 u17 u18 u19 u20 u21 u22 u23 u24 u25 u26 u27 u28 u29 u30 u31 u32 u33 u34 u35 u36 u37 u38 u39 u40 u41 u42 u43 u44 u45 u46 u47 u48 u49 u50 u51 u52 u53 u54 u55 u56 u57 u58 u59 u60 u61 u62 u63 u64 u65 u66 u67 u68 u69 u70 u71 u72 u73 u74 u75 u76 u77 u78 u79 u80 u81 u82 u83 u84 u85 u86 u87 u88 u89 u90 u91 u92 u93 u94 u95 u96 u97 u98 u99 u100 u101 u102 u103 u104 u105 u106 u107 u108 u109 u110 u111 u112 u113 u114 u115 u116 u117 u118 u119 u120 u121 u122 u123 u124 u125 u126 u127 u128 u129 u130 u131 u132 u133 u134 u135 u136 u137 u138 u139 u140 u141 u142 u143 u144 u145 u146 u147 u148 u149 u150 u151 u152 u153 u154 u155 u156 u157 u158 u159 u160 u161 u162 u163 u164 u165 u166 u167 u168 u169 u170 u171 u172 u173 u174 u175 u176 u177 u178 u179 u180 u181 u182 u183 u184 u185 u186 u187 u188 u189 u190 u191 u192 u193 u194 u195 u196 u197 : Value} (hQ : ∀ (z0 z4 z5 z6 z7 z8 z9 z10 z32 z33 z34 z35 z36 z37 z38 z39 z40 z41 z42 z43 z44 z45 z46 z47 z48 z49 z50 z51 z52 z53 z54 z55 z56 z57 z58 z59 z60 z61 z62 z63 z64 z65 z66 z67 z68 z69 z70 z71 z72 z73 z74 z75 z76 z77 z78 z79 z80 z81 z82 z83 z84 z85 z86 z87 z88 z89 z90 z91 z92 z93 z94 z95 z96 z97 z98 z99 z100 z101 z102 z103 z104 z105 z106 z107 z108 z109 z110 z111 z112 z113 z114 z115 : Value) (w9 : World) (a : Option Addr) (c : Nat) (l : List Sc), KL w2 w9 (.slice a l.length c) l (40 * (j + 1)) → Q .normal { tmps := List.toArray (z0::.slice a l.length c::.slice (some ⟨NB, 0, none⟩) 10 10::.int .i64 (j : Int)::z4::z5::z6::z7::z8::z9::z10::u11::u12::u13::u14::u15::u16::u17::u18::u19::u20::u21::u22::u23::u24::u25::u26::u27::u28::u29::u30::u31::z32::z33::z34::z35::z36::z37::z38::z39::z40::z41::z42::z43::z44::z45::z46::z47::z48::z49::z50::z51::z52::z53::z54::z55::z56::z57::z58::z59::z60::z61::z62::z63::z64::z65::z66::z67::z68::z69::z70::z71::z72::z73::z74::z75::z76::z77::z78::z79::z80::z81::z82::z83::z84::z85::z86::z87::z88::z89::z90::z91::z92::z93::z94::z95::z96::z97::z98::z99::z100::z101::z102::z103::z104::z105::z106::z107::z108::z109::z110::z111::z112::z113::z114::z115::u116::u117::u118::u119::u120::u121::u122::u123::u124::u125::u126::u127::u128::u129::u130::u131::u132::u133::u134::u135::u136::u137::u138::u139::u140::u141::u142::u143::u144::u145::u146::u147::u148::u149::u150::u151::u152::u153::u154::u155::u156::u157::u158::u159::u160::u161::u162::u163::u164::u165::u166::u167::u168::u169::u170::u171::u172::u173::u174::u175::u176::u177::u178::u179::u180::u181::u182::u183::u184::u185::u186::u187::u188::u189::u190::u191::u192::u193::u194::u195::u196::u197::[]), defers := [] } w9) :
    Code.wp Try.prog code_nl2 Q { tmps := List.toArray (u0::.slice a0 l0.length c0::.slice (some ⟨NB, 0, none⟩) 10 10::.int .i64 (j : Int)::.int .i64 ((j : Int) + 1)::u5::u6::u7::u8::u9::u10::u11::u12::u13::u14::u15::u16::u17::u18::u19::u20::u21::u22::u23::u24::u25::u26::u27::u28::u29::u30::u31::u32::u33::u34::u35::u36::u37::u38::u39::u40::u41::u42::u43::u44::u45::u46::u47::u48::u49::u50::u51::u52::u53::u54::u55::u56::u57::u58::u59::u60::u61::u62::u63::u64::u65::u66::u67::u68::u69::u70::u71::u72::u73::u74::u75::u76::u77::u78::u79::u80::u81::u82::u83::u84::u85::u86::u87::u88::u89::u90::u91::u92::u93::u94::u95::u96::u97::u98::u99::u100::u101::u102::u103::u104::u105::u106::u107::u108::u109::u110::u111::u112::u113::u114::u115::u116::u117::u118::u119::u120::u121::u122::u123::u124::u125::u126::u127::u128::u129::u130::u131::u132::u133::u134::u135::u136::u137::u138::u139::u140::u141::u142::u143::u144::u145::u146::u147::u148::u149::u150::u151::u152::u153::u154::u155::u156::u157::u158::u159::u160::u161::u162::u163::u164::u165::u166::u167::u168::u169::u170::u171::u172::u173::u174::u175::u176::u177::u178::u179::u180::u181::u182::u183::u184::u185::u186::u187::u188::u189::u190::u191::u192::u193::u194::u195::u196::u197::[]), defers := [] } wr := by
  have HQF := Lib.hid hQ
  clear hQ
  conv => arg 2; whnf
  go_wp2_with fail
  go_loopw [1, 4] (fun v k wr => ∃ (q : Nat) (l : List Sc), j < q ∧ q ≤ 11 ∧ k = .int .i64 (q : Int) ∧ KL w2 wr v l (40 * j + 1 + 3 * q)) (fun v k wr => (11 - intOf k).toNat)
  case atStart => exact ⟨j + 1, l0, Nat.lt_succ_self _, Nat.le_trans HJL.out (by decide), by simp, HK.out⟩
  case round =>
    rename World => wq
    obtain ⟨q, l2, hq1, hq2, rfl, hK⟩ := hrel
    obtain ⟨a2, c2, rfl⟩ := hK.1.form
    have HKQ := Lib.hid hK
    have HQ1 := Lib.hid hq1
    have HQ3 := Lib.hid hq2
    clear hK hq1 hq2
    by_cases hq10 : q < 10
    · have HQ2 := Lib.hid hq10
      have hqi : (q : Int) < 10 := l10 hq10
      clear hq10
      have HNQ := Lib.hid (HKQ.out.2.2.2.2.heap HN.out (by simp))
      have HNI := Lib.hid (num_cell HNQ.out HJL.out)
      have HNK := Lib.hid (num_cell HNQ.out HQ2.out)
      have HSM := Lib.hid (num_some ⟨q, HQ2.out⟩ ⟨j, HJL.out⟩ HQ1.out)
      have HI0 := Lib.hid (cast_nn j)
      have HI1 : Hid ((j : Int) < 10) := Lib.hid (l10 HJL.out)
      have HK0 := Lib.hid (cast_nn q)
      have HK1 : Hid ((q : Int) < 10) := Lib.hid hqi
      obtain ⟨⟨⟨pv, pm⟩, ⟨pl, ph, pi, pj⟩⟩, hp⟩ : ∃ g : Sc, (ofT (sA j q)).getD zeroSc = g := ⟨_, rfl⟩
      have HRA : Hid (Rg ⟨⟨pv, pm⟩, ⟨pl, ph, pi, pj⟩⟩) := Lib.hid (by rw [← hp]; exact of_rg (sA_rg HJL.out HQ2.out) HSM.out.1)
      obtain ⟨⟨⟨rv, rm⟩, ⟨rl, rh, ri, rj⟩⟩, hr⟩ : ∃ g : Sc, (ofT (sB j q)).getD zeroSc = g := ⟨_, rfl⟩
      have HRB : Hid (Rg ⟨⟨rv, rm⟩, ⟨rl, rh, ri, rj⟩⟩) := Lib.hid (by rw [← hr]; exact of_rg (sB_rg HJL.out HQ2.out) HSM.out.2.1)
      obtain ⟨⟨⟨sv, sm⟩, ⟨sl, sh, si, sj⟩⟩, hs⟩ : ∃ g : Sc, (ofT (sC j q)).getD zeroSc = g := ⟨_, rfl⟩
      have HRC : Hid (Rg ⟨⟨sv, sm⟩, ⟨sl, sh, si, sj⟩⟩) := Lib.hid (by rw [← hs]; exact of_rg (sC_rg HJL.out HQ2.out) HSM.out.2.2)
      have HXJ := Lib.hid (num_lt HJL.out)
      have HOA := Lib.hid (fun w => r19Of_v 0 18446744073709551615 (numA j) (numA q) pv pm pl ph (-9223372036854775808) 9223372036854775807 pi pj true (sA_rg HJL.out HQ2.out) hp HSM.out.1 w)
      have HOB := Lib.hid (fun w => r19Of_v (numA j) (uand (unot (numA j)) (numA q)) 0 18446744073709551615 rv rm rl rh (-9223372036854775808) 9223372036854775807 ri rj true (sB_rg HJL.out HQ2.out) hr HSM.out.2.1 w)
      have HOC := Lib.hid (fun w => r19Of_v 0 18446744073709551615 0 18446744073709551615 sv sm sl sh (min (toS (numA j)) (toS (numA q))) (max (toS (numA j)) (toS (numA q))) si sj true (sC_rg HJL.out HQ2.out) hs HSM.out.2.2 w)
      have HXA := Lib.hid (xor_not (numA j) HXJ.out)
      have HXB : Hid (bits .and .u64 ((unot (numA j) : Nat) : Int) ((numA q : Nat) : Int) = ((uand (unot (numA j)) (numA q) : Nat) : Int)) := Lib.hid (bits_and _ _)
      have HWA : Hid (IntKind.i64.wrap (numA j : Int) = toS (numA j)) := Lib.hid rfl
      have HWB : Hid (IntKind.i64.wrap (numA q : Int) = toS (numA q)) := Lib.hid rfl
      clear hp hr hs
      go_wp2_with fail
      clear hqi
      refine nu10 _ HI0 HI1 HK0 HK1 HNI HNK HOA ?_
      intro _ _ _ _ _ _ _ _ _ _ _ _ _ _ w6 kA hb hk h1
      have HPA := Lib.hid h1
      have HNI := Lib.hid (cell_but hb HNI.out (by simp))
      have HNK := Lib.hid (cell_but hb HNK.out (by simp))
      have HB6 := Lib.hid hb
      clear hb hk h1
      go_wp2_with fail
      refine nu11 _ HI0 HI1 HK0 HK1 HNI HNK HXA HXB (Lib.hid rfl) HOB ?_
      intro _ _ _ _ _ _ _ _ _ _ _ _ _ _ _ _ _ _ _ _ w7 kB hb hk h1
      have HPA := Lib.hid (hb.heap HPA.out (by simp))
      have HPB := Lib.hid h1
      have HNI := Lib.hid (cell_but hb HNI.out (by simp))
      have HNK := Lib.hid (cell_but hb HNK.out (by simp))
      have HB7 := Lib.hid (HB6.out.trans hb (by simp))
      clear hb hk h1
      go_wp2_with fail
      refine nu12 _ HI0 HI1 HK0 HK1 HNI HNK HWA HWB (Lib.hid rfl) (Lib.hid rfl) HOC ?_
      intro _ _ _ _ _ _ _ _ _ _ _ _ _ _ _ _ _ _ _ _ _ _ _ _ _ _ _ _ w8 kC hb hk h1
      have HPA := Lib.hid (hb.heap HPA.out (by simp))
      have HPB := Lib.hid (hb.heap HPB.out (by simp))
      have HPC := Lib.hid h1
      have HB8 := Lib.hid (HB7.out.trans hb (by simp))
      clear hb hk h1 HXA HXB HWA HWB HOA HOB HOC
      have hx := HPA.out
      obtain ⟨cA0, cA1, cA2, cA3, cA4, cA5⟩ := c6_of hx
      have zA := lt_of hx
      clear hx
      have hx := HPB.out
      obtain ⟨cB0, cB1, cB2, cB3, cB4, cB5⟩ := c6_of hx
      have zB := lt_of hx
      clear hx
      have hx := HPC.out
      obtain ⟨cC0, cC1, cC2, cC3, cC4, cC5⟩ := c6_of hx
      have zC := lt_of hx
      clear hx
      have HK8 := Lib.hid (HKQ.out.but HB8.out)
      have HKA := Lib.hid (HK8.out.but ((But.refl [] w8).alloc (.cells #[.int .u64 pv, .int .u64 pm, .int .u64 pl, .int .u64 ph, .int .i64 pi, .int .i64 pj, .int .u64 rv, .int .u64 rm, .int .u64 rl, .int .u64 rh, .int .i64 ri, .int .i64 rj, .int .u64 sv, .int .u64 sm, .int .u64 sl, .int .u64 sh, .int .i64 si, .int .i64 sj] 28)))
      have HQ := Lib.hid HKA.out.1
      have HSRC := Lib.hid (src_S Try.underlying31 HZ1.out w8 [⟨⟨pv, pm⟩, ⟨pl, ph, pi, pj⟩⟩, ⟨⟨rv, rm⟩, ⟨rl, rh, ri, rj⟩⟩, ⟨⟨sv, sm⟩, ⟨sl, sh, si, sj⟩⟩] #[.int .u64 pv, .int .u64 pm, .int .u64 pl, .int .u64 ph, .int .i64 pi, .int .i64 pj, .int .u64 rv, .int .u64 rm, .int .u64 rl, .int .u64 rh, .int .i64 ri, .int .i64 rj, .int .u64 sv, .int .u64 sm, .int .u64 sl, .int .u64 sh, .int .i64 si, .int .i64 sj] rfl (w8.alloc (.cells #[.int .u64 pv, .int .u64 pm, .int .u64 pl, .int .u64 ph, .int .i64 pi, .int .i64 pj, .int .u64 rv, .int .u64 rm, .int .u64 rl, .int .u64 rh, .int .i64 ri, .int .i64 rj, .int .u64 sv, .int .u64 sm, .int .u64 sl, .int .u64 sh, .int .i64 si, .int .i64 sj] 28)) (al_at _ _) 3 rfl)
      have HLE : Hid (l2.length ≤ 1024) := Lib.hid (kl_d HKQ.out.2.1 HJL.out HQ2.out)
      go_upto_region 9 with (at_builtin; refine wpList_append_s (by rfl) _ _ 31 (by rfl) 28 i0 (.agg #[.int .u64 0, .int .u64 0, .int .u64 0, .int .u64 0, .int .i64 0, .int .i64 0]) 48 Try.underlying31 HI.out HZ0.out HZ1.out HZ2.out rfl _ l2 (by rfl) HQ.out [⟨⟨pv, pm⟩, ⟨pl, ph, pi, pj⟩⟩, ⟨⟨rv, rm⟩, ⟨rl, rh, ri, rj⟩⟩, ⟨⟨sv, sm⟩, ⟨sl, sh, si, sj⟩⟩] _ (by rfl) HSRC.out (app_fitsS (k := 3) (HLE.out) (by decide)).1 (app_fitsS (k := 3) (HLE.out) (by decide)).2 ?_; intro v' w9 hap; have hK9 := HKA.out.app hap (by intro z hz; simp at hz; rcases hz with rfl | rfl | rfl; exact HRA.out; exact HRB.out; exact HRC.out); clear hap; have hK6 := hK9.mono (m := 40 * j + 1 + 3 * (q + 2)) kl_b; clear hK9; obtain ⟨l9, hl9⟩ : ∃ L, L = l2 ++ [⟨⟨pv, pm⟩, ⟨pl, ph, pi, pj⟩⟩, ⟨⟨rv, rm⟩, ⟨rl, rh, ri, rj⟩⟩, ⟨⟨sv, sm⟩, ⟨sl, sh, si, sj⟩⟩] := ⟨_, rfl⟩; rw [← hl9] at hK6; clear hl9; obtain ⟨a9, c9, rfl⟩ := hK6.1.form; have HK9 := Lib.hid hK6; clear hK6)
      clear zA cA0 cA1 cA2 cA3 cA4 cA5 zB cB0 cB1 cB2 cB3 cB4 cB5 zC cC0 cC1 cC2 cC3 cC4 cC5
      have hw2 := inc2 (Nat.lt_trans HQ2.out (by decide) : q < 1000)
      go_wp2_with fail
      go_roundw
      case rel => exact ⟨q + 2, _, Nat.lt_succ_of_lt (Nat.lt_succ_of_lt HQ1.out), Nat.succ_le_succ (Nat.succ_le_of_lt HQ2.out), by simp [hw2], HK9.out⟩
      case measure => exact mz11 HQ2.out
    · have HQ4 := Lib.hid hq10
      have hqi := n10 HQ4.out
      clear hq10
      go_wp2_with fail
      exact HQF.out _ _ _ _ _ _ _ _ _ _ _ _ _ _ _ _ _ _ _ _ _ _ _ _ _ _ _ _ _ _ _ _ _ _ _ _ _ _ _ _ _ _ _ _ _ _ _ _ _ _ _ _ _ _ _ _ _ _ _ _ _ _ _ _ _ _ _ _ _ _ _ _ _ _ _ _ _ _ _ _ _ _ _ _ _ _ _ _ _ _ _ _ _ _ _ _ (HKQ.out.mono (kl_a HQ3.out))
noncomputable def code_nl1 : Code := ((Try.f4.body.getD .skip |> blockR 0).getD .skip)
set_option maxRecDepth 100000 in
set_option maxHeartbeats 8000000 in
theorem nl1 (Q : Exit → Act → World → Prop) {wr : World} {w2 : World} {i0 : TypeInfo} {NB : Nat} (HI : Hid (Try.prog.info? 28 = some i0)) (HZ0 : Hid (i0.zero = some (.agg #[.int .u64 0, .int .u64 0, .int .u64 0, .int .u64 0, .int .i64 0, .int .i64 0]))) (HZ1 : Hid (i0.size = 6)) (HZ2 : Hid (i0.bytes = 48)) (HN : Hid (w2.heap[NB]? = some (.cells numCells 22))) (HB : Hid (But [] w2 wr)) {u0 u4 u5 u6 u7 u8 u9 u10 u11 u12 u13 u14 u15 u16 u17 u18 u19 u20 u21 u22 u23 u24 u25 u26 u27 u28 u29 u30 u31 u32 u33 u34 u35 u36 u37 u38 u39 u40 u41 u42 u43 u44 u45 u46 u47 u48 u49 u50 u51 u52 u53 u54 u55 u56 u57 u58 u59 u60 u61 u62 u63 u64 u65 u66 u67 u68 u69 u70 u71 u72 u73 u74 u75 u76 u77 u78 u79 u80 u81 u82 u83 u84 u85 u86 u87 u88 u89 u90 u91 u92 u93 u94 u95 u96 u97 u98 u99 u100 u101 u102 u103 u104 u105 u106 u107 u108 u109 u110 u111 u112 u113 u114 u115 u116 u117 u118 u119 u120 u121 u122 u123 u124 u125 u126 u127 u128 u129 u130 u131 u132 u133 u134 u135 u136 u137 u138 u139 u140 u141 u142 u143 u144 u145 u146 u147 u148 u149 u150 u151 u152 u153 u154 u155 u156 u157 u158 u159 u160 u161 u162 u163 u164 u165 u166 u167 u168 u169 u170 u171 u172 u173 u174 u175 u176 u177 u178 u179 u180 u181 u182 u183 u184 u185 u186 u187 u188 u189 u190 u191 u192 u193 u194 u195 u196 u197 : Value} (hQ : ∀ (z0 z3 z4 z5 z6 z7 z8 z9 z10 z16 z17 z18 z19 z20 z21 z22 z23 z24 z25 z26 z27 z28 z29 z30 z31 z32 z33 z34 z35 z36 z37 z38 z39 z40 z41 z42 z43 z44 z45 z46 z47 z48 z49 z50 z51 z52 z53 z54 z55 z56 z57 z58 z59 z60 z61 z62 z63 z64 z65 z66 z67 z68 z69 z70 z71 z72 z73 z74 z75 z76 z77 z78 z79 z80 z81 z82 z83 z84 z85 z86 z87 z88 z89 z90 z91 z92 z93 z94 z95 z96 z97 z98 z99 z100 z101 z102 z103 z104 z105 z106 z107 z108 z109 z110 z111 z112 z113 z114 z115 : Value) (w9 : World) (a : Option Addr) (c : Nat) (l : List Sc), KL w2 w9 (.slice a l.length c) l 400 → Q .normal { tmps := List.toArray (z0::.slice a l.length c::.slice (some ⟨NB, 0, none⟩) 10 10::z3::z4::z5::z6::z7::z8::z9::z10::u11::u12::u13::u14::u15::z16::z17::z18::z19::z20::z21::z22::z23::z24::z25::z26::z27::z28::z29::z30::z31::z32::z33::z34::z35::z36::z37::z38::z39::z40::z41::z42::z43::z44::z45::z46::z47::z48::z49::z50::z51::z52::z53::z54::z55::z56::z57::z58::z59::z60::z61::z62::z63::z64::z65::z66::z67::z68::z69::z70::z71::z72::z73::z74::z75::z76::z77::z78::z79::z80::z81::z82::z83::z84::z85::z86::z87::z88::z89::z90::z91::z92::z93::z94::z95::z96::z97::z98::z99::z100::z101::z102::z103::z104::z105::z106::z107::z108::z109::z110::z111::z112::z113::z114::z115::u116::u117::u118::u119::u120::u121::u122::u123::u124::u125::u126::u127::u128::u129::u130::u131::u132::u133::u134::u135::u136::u137::u138::u139::u140::u141::u142::u143::u144::u145::u146::u147::u148::u149::u150::u151::u152::u153::u154::u155::u156::u157::u158::u159::u160::u161::u162::u163::u164::u165::u166::u167::u168::u169::u170::u171::u172::u173::u174::u175::u176::u177::u178::u179::u180::u181::u182::u183::u184::u185::u186::u187::u188::u189::u190::u191::u192::u193::u194::u195::u196::u197::[]), defers := [] } w9) :
    Code.wp Try.prog code_nl1 Q { tmps := List.toArray (u0::.slice none 0 0::.slice (some ⟨NB, 0, none⟩) 10 10::.int .i64 0::u4::u5::u6::u7::u8::u9::u10::u11::u12::u13::u14::u15::u16::u17::u18::u19::u20::u21::u22::u23::u24::u25::u26::u27::u28::u29::u30::u31::u32::u33::u34::u35::u36::u37::u38::u39::u40::u41::u42::u43::u44::u45::u46::u47::u48::u49::u50::u51::u52::u53::u54::u55::u56::u57::u58::u59::u60::u61::u62::u63::u64::u65::u66::u67::u68::u69::u70::u71::u72::u73::u74::u75::u76::u77::u78::u79::u80::u81::u82::u83::u84::u85::u86::u87::u88::u89::u90::u91::u92::u93::u94::u95::u96::u97::u98::u99::u100::u101::u102::u103::u104::u105::u106::u107::u108::u109::u110::u111::u112::u113::u114::u115::u116::u117::u118::u119::u120::u121::u122::u123::u124::u125::u126::u127::u128::u129::u130::u131::u132::u133::u134::u135::u136::u137::u138::u139::u140::u141::u142::u143::u144::u145::u146::u147::u148::u149::u150::u151::u152::u153::u154::u155::u156::u157::u158::u159::u160::u161::u162::u163::u164::u165::u166::u167::u168::u169::u170::u171::u172::u173::u174::u175::u176::u177::u178::u179::u180::u181::u182::u183::u184::u185::u186::u187::u188::u189::u190::u191::u192::u193::u194::u195::u196::u197::[]), defers := [] } wr := by
  have HQF := Lib.hid hQ
  clear hQ
  conv => arg 2; whnf
  go_wp2_with fail
  go_loopw [1, 3] (fun v i wr => ∃ (j : Nat) (l : List Sc), j ≤ 10 ∧ i = .int .i64 (j : Int) ∧ KL w2 wr v l (40 * j)) (fun v i wr => (10 - intOf i).toNat)
  case atStart => exact ⟨0, [], Nat.zero_le _, rfl, OwnS.nil _ _, by simp, by simp, (fun b hb => by cases hb), HB.out⟩
  case round =>
    rename World => wq
    obtain ⟨j, l, hj, rfl, hK⟩ := hrel
    obtain ⟨a, c, rfl⟩ := hK.1.form
    have HK := Lib.hid hK
    have HJ := Lib.hid hj
    clear hK hj
    by_cases hj6 : j = 10
    · subst hj6
      go_wp2_with fail
      exact HQF.out _ _ _ _ _ _ _ _ _ _ _ _ _ _ _ _ _ _ _ _ _ _ _ _ _ _ _ _ _ _ _ _ _ _ _ _ _ _ _ _ _ _ _ _ _ _ _ _ _ _ _ _ _ _ _ _ _ _ _ _ _ _ _ _ _ _ _ _ _ _ _ _ _ _ _ _ _ _ _ _ _ _ _ _ _ _ _ _ _ _ _ _ _ _ _ _ _ _ _ _ _ _ _ _ _ _ _ _ _ _ _ _ _ HK.out
    have HJL : Hid (j < 10) := Lib.hid (Nat.lt_of_le_of_ne HJ.out hj6)
    have hlt : (j : Int) < 10 := l10 HJL.out
    have hc := num_cell (HK.out.2.2.2.2.heap HN.out (by simp)) HJL.out
    have HX : Hid (numA j < 18446744073709551616) := Lib.hid (num_lt HJL.out)
    obtain ⟨x, hx⟩ : ∃ x, x = numA j := ⟨_, rfl⟩
    rw [← hx] at hc HX
    obtain ⟨y, hy⟩ : ∃ y, toS x = y := ⟨_, rfl⟩
    have HY := Lib.hid hy
    clear hx hy hj6
    go_wp2_with fail
    refine (r19Const_c x y HY.out _).mono ?_
    rintro e w3 ⟨rfl, hb⟩
    have HK3 := Lib.hid (HK.out.but hb)
    clear hb hc
    have HKA := Lib.hid (HK3.out.but ((But.refl [] w3).alloc (.cells #[.int .u64 (x : Int), .int .u64 0, .int .u64 (x : Int), .int .u64 (x : Int), .int .i64 y, .int .i64 y] 28)))
    have HQ := Lib.hid HKA.out.1
    have HSRC := Lib.hid (src_S Try.underlying31 HZ1.out w3 [⟨⟨x, 0⟩, ⟨x, x, y, y⟩⟩] #[.int .u64 (x : Int), .int .u64 0, .int .u64 (x : Int), .int .u64 (x : Int), .int .i64 y, .int .i64 y] rfl (w3.alloc (.cells #[.int .u64 (x : Int), .int .u64 0, .int .u64 (x : Int), .int .u64 (x : Int), .int .i64 y, .int .i64 y] 28)) (al_at _ _) 1 rfl)
    have HLE : Hid (l.length ≤ 1024) := Lib.hid (kl_e HK3.out.2.1 HJL.out)
    go_upto_region 7 with (at_builtin; refine wpList_append_s (by rfl) _ _ 31 (by rfl) 28 i0 (.agg #[.int .u64 0, .int .u64 0, .int .u64 0, .int .u64 0, .int .i64 0, .int .i64 0]) 48 Try.underlying31 HI.out HZ0.out HZ1.out HZ2.out rfl _ l (by rfl) HQ.out [⟨⟨x, 0⟩, ⟨x, x, y, y⟩⟩] _ (by rfl) HSRC.out (app_fitsS (k := 1) (HLE.out) (by decide)).1 (app_fitsS (k := 1) (HLE.out) (by decide)).2 ?_; intro v' w5 hap; have hK5 := HKA.out.app hap (by intro z hz; simp at hz; subst hz; exact ⟨HX.out, by simp, HX.out, HX.out, by rw [← HY.out]; exact (toS_bd x).1, by rw [← HY.out]; exact (toS_bd x).2⟩); clear hap; have hK6 := hK5.mono (m := 40 * j + 1 + 3 * (j + 1)) kl_c; clear hK5; obtain ⟨l1, hl1⟩ : ∃ L, L = l ++ [⟨⟨x, 0⟩, ⟨x, x, y, y⟩⟩] := ⟨_, rfl⟩; rw [← hl1] at hK6; clear hl1; obtain ⟨a5, c5, rfl⟩ := hK6.1.form; have HK5 := Lib.hid hK6; clear hK6)
    clear HKA HQ HSRC HLE HK3
    have hinc := inc1 (Nat.lt_trans HJL.out (by decide) : j < 1000)
    go_upto_block 2 with (fail)
    refine nl2 _ HI HZ0 HZ1 HZ2 HN HJL HK5 ?_
    intro _ _ _ _ _ _ _ _ _ _ _ _ _ _ _ _ _ _ _ _ _ _ _ _ _ _ _ _ _ _ _ _ _ _ _ _ _ _ _ _ _ _ _ _ _ _ _ _ _ _ _ _ _ _ _ _ _ _ _ _ _ _ _ _ _ _ _ _ _ _ _ _ _ _ _ _ _ _ _ _ _ _ _ _ _ _ _ _ _ _ _ _ w9 a9 c9 l9 hK9
    have HK9 := Lib.hid hK9
    clear hK9 hlt
    go_wp2_with fail
    go_roundw
    case rel => exact ⟨j + 1, l9, HJL.out, by simp [hinc], HK9.out⟩
    case measure => exact mz10 HJL.out
set_option maxRecDepth 100000 in
set_option maxHeartbeats 8000000 in
theorem numbers_w (w : World) : Calls Try.prog 4 #[] w fun e w' => e = .returned (.bool true) ∧ But [] w w' := by
  obtain ⟨i0, hi0, hz0, hz1, hz2⟩ := info_parts (show (Try.prog.info? 28).map (fun i => (i.zero, i.size, i.bytes)) = some (some (.agg #[.int .u64 0, .int .u64 0, .int .u64 0, .int .u64 0, .int .i64 0, .int .i64 0]), 6, 48) by kernel_rfl)
  have HI := Lib.hid hi0
  have HZ0 := Lib.hid hz0
  have HZ1 := Lib.hid hz1
  have HZ2 := Lib.hid hz2
  clear hi0 hz0 hz1 hz2
  go_enter Try.func4, Try.ntmps4
  go_upto_block 0 with (fail)
  generalize hw : World.alloc w _ = w2
  have HN : Hid (w2.heap[w.heap.size]? = some (.cells numCells 22)) := Lib.hid (by rw [← hw]; exact al_at _ _)
  have HB2 : Hid (But [] w w2) := Lib.hid (by rw [← hw]; exact (But.refl [] w).alloc _)
  clear hw
  obtain ⟨NB, hNB⟩ : ∃ n, n = w.heap.size := ⟨_, rfl⟩
  rw [← hNB] at HN ⊢
  clear hNB
  refine nl1 _ HI HZ0 HZ1 HZ2 HN (Lib.hid (But.refl _ _)) ?_
  intro _ _ _ _ _ _ _ _ _ _ _ _ _ _ _ _ _ _ _ _ _ _ _ _ _ _ _ _ _ _ _ _ _ _ _ _ _ _ _ _ _ _ _ _ _ _ _ _ _ _ _ _ _ _ _ _ _ _ _ _ _ _ _ _ _ _ _ _ _ _ _ _ _ _ _ _ _ _ _ _ _ _ _ _ _ _ _ _ _ _ _ _ _ _ _ _ _ _ _ _ _ _ _ _ _ _ _ _ _ wq a c l hK
  have HK := Lib.hid hK
  clear hK HN
  go_wp2_with fail
  refine (r19Unknown_c _).mono ?_
  rintro e w3 ⟨rfl, hb⟩
  have HK3 := Lib.hid (HK.out.but hb)
  clear hb HK
  have HKA := Lib.hid (HK3.out.but ((But.refl [] w3).alloc (.cells #[.int .u64 0, .int .u64 18446744073709551615, .int .u64 0, .int .u64 18446744073709551615, .int .i64 (-9223372036854775808), .int .i64 9223372036854775807, .int .u64 0, .int .u64 0, .int .u64 1, .int .u64 0, .int .i64 0, .int .i64 0] 28)))
  have HQ := Lib.hid HKA.out.1
  have HSRC := Lib.hid (src_S Try.underlying31 HZ1.out w3 [unkS, ⟨⟨0, 0⟩, ⟨1, 0, 0, 0⟩⟩] #[.int .u64 0, .int .u64 18446744073709551615, .int .u64 0, .int .u64 18446744073709551615, .int .i64 (-9223372036854775808), .int .i64 9223372036854775807, .int .u64 0, .int .u64 0, .int .u64 1, .int .u64 0, .int .i64 0, .int .i64 0] rfl (w3.alloc (.cells #[.int .u64 0, .int .u64 18446744073709551615, .int .u64 0, .int .u64 18446744073709551615, .int .i64 (-9223372036854775808), .int .i64 9223372036854775807, .int .u64 0, .int .u64 0, .int .u64 1, .int .u64 0, .int .i64 0, .int .i64 0] 28)) (al_at _ _) 2 rfl)
  have HLE : Hid (l.length ≤ 1024) := Lib.hid (Nat.le_trans HK3.out.2.1 (by decide))
  go_upto_region 17 with (at_builtin; refine wpList_append_s (by rfl) _ _ 31 (by rfl) 28 i0 (.agg #[.int .u64 0, .int .u64 0, .int .u64 0, .int .u64 0, .int .i64 0, .int .i64 0]) 48 Try.underlying31 HI.out HZ0.out HZ1.out HZ2.out rfl _ l (by rfl) HQ.out [unkS, ⟨⟨0, 0⟩, ⟨1, 0, 0, 0⟩⟩] _ (by rfl) HSRC.out (app_fitsS (k := 2) (HLE.out) (by decide)).1 (app_fitsS (k := 2) (HLE.out) (by decide)).2 ?_; intro v' w5 hap; have hK5 := HKA.out.app hap (by intro x hx; simp at hx; rcases hx with rfl | rfl <;> exact ⟨by decide, by decide, by decide, by decide, by decide, by decide⟩); clear hap; obtain ⟨L, hL⟩ : ∃ L, L = l ++ [unkS, ⟨⟨0, 0⟩, ⟨1, 0, 0, 0⟩⟩] := ⟨_, rfl⟩; rw [← hL] at hK5; obtain ⟨a5, c5, rfl⟩ := hK5.1.form; have HK5 := Lib.hid hK5; have HLL := Lib.hid hL; clear hK5 hL)
  have hL := HLL.out
  have hL0 : 0 < L.length := by rw [hL, List.length_append]; simp
  have hL1 : L.length ≤ 402 := HK5.out.2.1
  clear hL HLL HKA HQ HSRC HLE HK3
  obtain ⟨g, rfl⟩ := HK5.out.1.addr hL0
  obtain ⟨N, hN⟩ : ∃ n, n = L.length := ⟨_, rfl⟩
  have HL : Hid (OwnS w5 28 (.slice (some ⟨g, 0, none⟩) N c5) L ∧ (∀ x ∈ L, Rg x) ∧ L.length = N ∧ 0 < N ∧ N ≤ 402) := Lib.hid ⟨by rw [hN]; exact HK5.out.1, HK5.out.2.2.1, hN.symm, by rw [hN]; exact hL0, by rw [hN]; exact hL1⟩
  have HB5 := Lib.hid (HB2.out.trans HK5.out.2.2.2.2 (by simp))
  rw [← hN] at hL0 hL1 ⊢
  clear hN HK5 hL0 hL1
  go_upto_block 4 with (fail)
  refine nl3 _ HL ?_
  intro _ _ _ _ _ _ _ _ _ _ _ _ _ _ _ _ _ _ _ _ _ _ _ _ _ _ _ _ _ _ _ _ _ _ _ _ _ _ _ _ _ _ _ _ _ _ _ _ _ _ _ _ _ _ _ _ _ _ _ _ _ _ _ _ _ _ _ _ _ _ _ _ _ _ _ _ _ _ _ _ w6 hb
  have HB6 := Lib.hid (HB5.out.trans hb (by simp))
  clear hb
  go_wp2_with fail
  refine (awake_c _).mono ?_
  rintro e w9 ⟨rfl, hb⟩
  have HB9 := Lib.hid (HB6.out.trans hb (by simp))
  clear hb
  go_wp2_with fail
  go_ret
  exact ⟨rfl, HB9.out⟩
theorem numbers_walk (w : World) : Calls Try.prog 4 #[] w fun e w' => e = .returned (.bool true) ∧ Below w.heap.size w w' :=
  (numbers_w w).mono fun _ _ ⟨he, hb⟩ => ⟨he, hb.below (Nat.le_refl _) (by simp)⟩
end Go.Proofs.Ytmbmmcippglfoaa.M
