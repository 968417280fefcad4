/-
  'RegionKeeps' tells true: the walk, its last part.
-/
import Derived.Test.YtmleaogklpogdaaKeepsSp
import Derived.Deep.DeepCutAuto
import Derived.Deep.CutBlock
namespace Go.Proofs.Ytmleaogklpogdaa.M
open Go.RowKit
set_option linter.unusedVariables false
set_option linter.unusedSectionVars false
set_option linter.unusedSimpArgs false
def dropSeq : Nat → Code → Code
  | 0, c => c
  | n + 1, .seq _ c => dropSeq n c
  | _, c => c
noncomputable def code3 : Code := dropSeq 11 (Try.f4.body.getD .skip)
set_option maxRecDepth 100000 in
set_option maxHeartbeats 4000000 in
theorem tail3 {w : World} {rows : List (List Value)} {which off : Int} {b : List Value} {a0 a3 : Option Addr} {c0 c3 kk B b0 : Nat} {fb : Bool} {l' : List Part} {w5 : World} {u4 u5 u6 u7 u8 u9 u10 u12 u13 u14 u16 u18 u19 u20 u21 u22 u23 u24 u25 u26 u27 u28 u29 u30 u31 u32 u33 u34 u35 u36 u37 u38 u39 u40 u41 u42 u43 u44 u45 u46 u47 u48 u49 u50 u51 u52 u53 u54 u55 u56 u57 u58 u59 u60 u61 u62 u63 u64 u65 u66 u67 u68 u69 u70 u71 u72 u73 u74 u75 u76 u77 u78 u79 u80 u81 u82 u83 u84 u85 u86 u87 u88 u89 u90 u91 u92 u93 u94 u95 u96 u97 u98 u99 u100 u101 u102 u103 u104 u105 u106 u107 u108 u109 u110 u111 u112 u113 u114 u115 u116 u117 u118 u119 u120 u121 u122 u123 u124 u125 u126 u127 u128 u129 u130 u131 u132 u133 u134 u135 u136 u137 u138 u139 u140 u141 u142 u143 u144 u145 u146 u147 u148 u149 u150 u151 u152 u153 u154 u155 u156 u157 u158 u159 u160 u161 u162 u163 u164 u165 u166 u167 u168 u169 u170 u171 u172 u173 u174 u175 u176 u177 u178 u179 u180 u181 u182 u183 u184 u185 u186 u187 u188 u189 u190 u191 u192 u193 u194 u195 u196 u197 u198 u199 u200 u201 u202 u203 u204 u205 u206 u207 u208 u209 u210 u211 u212 u213 u214 u215 u216 u217 u218 u219 u220 u221 u222 u223 u224 u225 u226 u227 u228 u229 u230 u231 u232 u233 u234 u235 u236 u237 u238 u239 u240 u241 u242 u243 u244 u245 u246 u247 u248 : Value} (HR : Hid (∀ k, k < rows.length → ∃ ad a' c', a0 = some ad ∧ w.cell? (ad.add k) = some (.slice a' (row rows k).length c') ∧ Sees w (.slice a' (row rows k).length c') (row rows k))) (HB : Hid (Sees w (.slice a3 b.length c3) b)) (HRB : Hid (∀ r ∈ rows, IsBytes r ∧ r.length ≤ 140737488351232)) (HBB : Hid (IsBytes b)) (HO1 : Hid (-9223372036854775808 ≤ off)) (HO2 : Hid (off ≤ 9223372036854775807)) (hlb : b.length ≤ 20000) (h2 : rows.length ≤ 20) (hkl : kk < rows.length) (hB1 : w.heap.size ≤ B) (hB2 : w.heap.size ≤ b0)
    (HF : Hid (fits off (row rows kk).length b.length = fb)) (HFO : Hid (fb = true → off.toNat + b.length ≤ (row rows kk).length)) (HS' : Hid (Shape l' rows.length (aft rows b off.toNat kk fb))) (hM' : Mem w5 w.heap.size B b0 rows.length l') (hbc : But [] w w5) :
    Code.wp Try.prog code3 (bodyPost Try.prog Try.f4 fun e w' => e = .returned (.bool true) ∧ But [] w w') { tmps := List.toArray (.slice a0 rows.length c0 :: .int .i64 which :: .int .i64 off :: .slice a3 b.length c3 :: u4 :: u5 :: u6 :: u7 :: u8 :: u9 :: u10 :: .pointer (some ⟨B, 0, none⟩) :: u12 :: u13 :: u14 :: .int .i64 kk :: u16 :: .bool fb :: u18 :: u19 :: u20 :: u21 :: u22 :: u23 :: u24 :: u25 :: u26 :: u27 :: u28 :: u29 :: u30 :: u31 :: u32 :: u33 :: u34 :: u35 :: u36 :: u37 :: u38 :: u39 :: u40 :: u41 :: u42 :: u43 :: u44 :: u45 :: u46 :: u47 :: u48 :: u49 :: u50 :: u51 :: u52 :: u53 :: u54 :: u55 :: u56 :: u57 :: u58 :: u59 :: u60 :: u61 :: u62 :: u63 :: u64 :: u65 :: u66 :: u67 :: u68 :: u69 :: u70 :: u71 :: u72 :: u73 :: u74 :: u75 :: u76 :: u77 :: u78 :: u79 :: u80 :: u81 :: u82 :: u83 :: u84 :: u85 :: u86 :: u87 :: u88 :: u89 :: u90 :: u91 :: u92 :: u93 :: u94 :: u95 :: u96 :: u97 :: u98 :: u99 :: u100 :: u101 :: u102 :: u103 :: u104 :: u105 :: u106 :: u107 :: u108 :: u109 :: u110 :: u111 :: u112 :: u113 :: u114 :: u115 :: u116 :: u117 :: u118 :: u119 :: u120 :: u121 :: u122 :: u123 :: u124 :: u125 :: u126 :: u127 :: u128 :: u129 :: u130 :: u131 :: u132 :: u133 :: u134 :: u135 :: u136 :: u137 :: u138 :: u139 :: u140 :: u141 :: u142 :: u143 :: u144 :: u145 :: u146 :: u147 :: u148 :: u149 :: u150 :: u151 :: u152 :: u153 :: u154 :: u155 :: u156 :: u157 :: u158 :: u159 :: u160 :: u161 :: u162 :: u163 :: u164 :: u165 :: u166 :: u167 :: u168 :: u169 :: u170 :: u171 :: u172 :: u173 :: u174 :: u175 :: u176 :: u177 :: u178 :: u179 :: u180 :: u181 :: u182 :: u183 :: u184 :: u185 :: u186 :: u187 :: u188 :: u189 :: u190 :: u191 :: u192 :: u193 :: u194 :: u195 :: u196 :: u197 :: u198 :: u199 :: u200 :: u201 :: u202 :: u203 :: u204 :: u205 :: u206 :: u207 :: u208 :: u209 :: u210 :: u211 :: u212 :: u213 :: u214 :: u215 :: u216 :: u217 :: u218 :: u219 :: u220 :: u221 :: u222 :: u223 :: u224 :: u225 :: u226 :: u227 :: u228 :: u229 :: u230 :: u231 :: u232 :: u233 :: u234 :: u235 :: u236 :: u237 :: u238 :: u239 :: u240 :: u241 :: u242 :: u243 :: u244 :: u245 :: u246 :: u247 :: u248 :: []), defers := [] } w5 := by
  conv => arg 2; whnf
  go_wp2_with fail
  go_loopw [18] (fun i wr => ∃ k : Nat, k ≤ rows.length ∧ i = .int .i64 k ∧ Mem wr w.heap.size B b0 rows.length l' ∧ But [] w wr) (fun i _ => rows.length - (intOf i).toNat)
  case atStart => exact ⟨0, by omega, rfl, hM', hbc⟩
  case round =>
    obtain ⟨k, hk, rfl, hM, hbw⟩ := hrel
    clear hM' hbc
    by_cases hlt : k < rows.length
    · obtain ⟨p, hp, hp1, hp2, hp3⟩ := HS'.out.get hlt
      obtain ⟨ad, a'', c'', rfl, hc, hs⟩ := HR.out k hlt
      have hcr : wr.cell? (ad.add k) = some (Value.slice a'' (row rows k).length c'') := cell_but hbw hc (by simp)
      have HSk := Lib.hid (hs.but hbw (by simp))
      have HBk := Lib.hid (HRB.out _ (row_mem hlt)).1
      have hlk : (row rows k).length ≤ 4096 := by
        have h := (hM.part p hp).2.2.2.1
        rw [hp2, aft_len HFO.out] at h
        exact h
      have HP1 := Lib.hid hp1
      have HP2 := Lib.hid hp2
      have HP3 := Lib.hid hp3
      clear hc hs hp1 hp2 hp3
      go_upto_region 28 with (go_at_call 14; refine (copyBytes _ (row rows k) _ HSk.out HBk.out.one (by omega)).mono ?_; rintro e w6 ⟨v, rfl, hov, hnv, hbv⟩; obtain ⟨av, cv, rfl⟩ := own_shape' hov; have HNV := Lib.hid hnv; clear hnv)
      have hM6 := hM.new hbv
      have hb6 : But [] w w6 := hbw.trans hbv (by simp)
      obtain ⟨dd, hdd⟩ : ∃ dd : Bool, decide (k = kk ∧ fb = true) = dd := ⟨_, rfl⟩
      have HDD := Lib.hid hdd
      clear hdd
      go_cut [154] (fun s wx => s = .bool dd ∧ wx = w6)
      case first =>
        by_cases hkk : k = kk
        · have hq : ((k : Int) == (kk : Int)) = true := by rw [hkk]; exact beq_self_eq_true _
          have hf : dd = fb := by rw [← HDD.out]; cases fb <;> simp [hkk]
          clear hkk
          subst hf
          go_wp2_with fail
          go_meet
          exact ⟨rfl, rfl⟩
        · have hq : ((k : Int) == (kk : Int)) = false := beq_eq_false_iff_ne.2 (by omega)
          have hf : dd = false := by rw [← HDD.out]; simp [hkk]
          clear hkk
          subst hf
          go_wp2_with fail
          go_meet
          exact ⟨rfl, rfl⟩
      case rest =>
        obtain ⟨rfl, rfl⟩ := hcut
        obtain ⟨w6, hw6⟩ : ∃ w6, w6 = wc := ⟨_, rfl⟩
        subst hw6
        go_upto_if 154 with fail
        go_cut [] (fun wx => Own wx (.slice av (row rows k).length cv) (aft rows b off.toNat kk fb k) ∧ Mem wx w.heap.size B b0 rows.length l' ∧ But [] w wx)
        case first =>
          cases dd
          · have hik : ¬ (k = kk ∧ fb = true) := of_decide_eq_false HDD.out
            have HIK := Lib.hid hik
            clear hik
            go_wp2_with fail
            go_meet
            exact ⟨by rw [aft_no HIK.out]; exact hov, hM6, hb6⟩
          · have hik : k = kk ∧ fb = true := of_decide_eq_true HDD.out
            obtain ⟨hkk, hff⟩ := hik
            have hfit := HFO.out hff
            have h0 : 0 ≤ off := by
              have h1 := HF.out
              rw [hff] at h1
              simp only [fits, Has, Bool.and_eq_true, decide_eq_true_eq] at h1
              omega
            obtain ⟨o, ho⟩ : ∃ o : Nat, off = o := ⟨off.toNat, by omega⟩
            have hlk2 : (row rows kk).length = (row rows k).length := by rw [hkk]
            have hfit2 : o + b.length ≤ (row rows k).length := by rw [ho, Int.toNat_natCast] at hfit; omega
            have HA := Lib.hid (show aft rows b off.toNat kk fb k = splice (row rows k) o b by rw [ho, Int.toNat_natCast]; unfold aft; rw [if_pos ⟨hkk, hff⟩, hkk])
            clear hkk hff hfit h0 hlk2
            subst ho
            have HSb := Lib.hid (HB.out.but hb6 (by simp))
            by_cases hbz : b.length = 0
            · have hbn : b = [] := List.eq_nil_of_length_eq_zero hbz
              have HBZ := Lib.hid hbz
              have HBN := Lib.hid hbn
              clear hbz hbn
              by_cases hcv : cv = o
              · subst hcv
                go_wp2_with (refine wpList_copy_nothing rfl (.tmp 157) (.tmp 158) 33 33 rfl 5 Try.underlying33 (by kernel_rfl) _ _ _ _ _ _ rfl rfl (by rw [HBZ.out]; exact Nat.zero_min _) ?_)
                all_goals
                  go_meet
                  refine ⟨?_, hM6, hb6⟩
                  rw [HA.out, HBN.out]
                  simp only [splice, List.nil_append, List.length_nil, Nat.add_zero, List.take_append_drop]
                  exact hov
              · skip
                go_wp2_with (refine wpList_copy_nothing rfl (.tmp 157) (.tmp 158) 33 33 rfl 5 Try.underlying33 (by kernel_rfl) _ _ _ _ _ _ rfl rfl (by rw [HBZ.out]; exact Nat.zero_min _) ?_)
                all_goals
                  go_meet
                  refine ⟨?_, hM6, hb6⟩
                  rw [HA.out, HBN.out]
                  simp only [splice, List.nil_append, List.length_nil, Nat.add_zero, List.take_append_drop]
                  exact hov
            · rcases hov.2 with ⟨h, hn0⟩ | ⟨g, cap, cur, h, _, hg, hcap, hmax, hsz, ht⟩
              · exfalso; omega
              · obtain ⟨rfl, rfl⟩ : av = some ⟨g, 0, none⟩ ∧ cv = cap := by cases h; exact ⟨rfl, rfl⟩
                have hBg : wr.heap.size ≤ g := HNV.out g rfl
                have hcut : ¬ cv = o := by omega
                obtain ⟨adb, hadb, hcb⟩ : ∃ adb, a3 = some adb ∧ Hid (∀ j v, b[j]? = some v → w6.cell? (adb.add j) = some v) := by
                  rcases HSb.out with ⟨h1, h2⟩ | ⟨adb, cb, h1, _, hx⟩
                  · exact absurd (by rw [h2]; rfl) hbz
                  · cases h1; exact ⟨adb, rfl, Lib.hid hx⟩
                subst hadb
                have hg2 : w6.heap[g]? = some (.cells cur.toList.toArray 5 (0, 0)) := by rw [Array.toArray_toList]; exact hg
                have HG := Lib.hid hg2
                rw [Nat.mul_one] at hsz ht
                have hcl0 : cur.toList.length = cv := by rw [Array.length_toList]; exact hsz
                have hcl : o + b.length ≤ cur.toList.length := by omega
                clear hcl0
                have HSZ := Lib.hid hsz
                have HT := Lib.hid ht
                have hbl0 : Below wr.heap.size wr w6 := hbv.below (Nat.le_refl _) (by simp)
                clear h hg hg2 hsz ht
                go_wp2_with (refine wpList_copy_splice rfl (.tmp 157) (.tmp 158) 33 33 rfl 5 Try.underlying33 (by kernel_rfl) _ _ _ _ _ _ rfl rfl g o cur.toList 5 HG.out b (Nat.min_eq_left (by omega)).symm (fun h => ⟨by first | rfl | simp, adb, rfl, hcb.out⟩) hcl HBB.out.one wr.heap.size wr hbl0 hBg ?_; intro w7 hg7 hb7)
                all_goals
                  go_meet
                  refine ⟨?_, hM.new (But.of_below hb7), hbw.trans (But.of_below hb7) (by simp)⟩
                  rw [HA.out]
                  exact own_splice (w := w6) (cur := cur) hg7.out hcap hmax HSZ.out HT.out hfit2
        case rest =>
          obtain ⟨hov7, hM7, hb7⟩ := hcut
          obtain ⟨w7, hw7⟩ : ∃ w7, w7 = wc := ⟨_, rfl⟩
          subst hw7
          have hpl : p.bs.length = (row rows k).length := by rw [HP2.out, aft_len HFO.out]
          have HPL := Lib.hid hpl
          clear hM6 hb6 hov hbv hM hbw hpl
          have HAB := Lib.hid (aft_bytes (b := b) (o := off.toNat) (kk := kk) (fb := fb) HRB.out HBB.out hlt hkl)
          go_wp2_with fail
          refine (read_at (p := p) ((k : Int) + 1) 0 _ 0 (row rows k).length hM7 hp HP1.out.symm rfl rfl (by rw [HPL.out]; omega)).mono ?_
          rintro e w8 ⟨v8, rfl, ho8, hn8, hb8⟩
          rw [List.drop_zero, List.take_of_length_le (by rw [HPL.out]; omega), HP2.out] at ho8
          obtain ⟨a8, c8, rfl⟩ := own_shape' ho8
          have hM8 := hM7.new hb8
          have hov8 := hov7.but hb8 (by simp)
          have hb8' : But [] w w8 := hb7.trans hb8 (by simp)
          clear hn8 hb8 hM7 hov7 hb7
          dsimp only
          go_wp2_with fail
          refine (same_yes _ _ (aft rows b off.toNat kk fb k) _ HAB.out ho8.sees hov8.sees (by rw [aft_len HFO.out]; omega)).mono ?_
          rintro e w9 ⟨rfl, hb9⟩
          have hM9 := hM8.new hb9
          have hb9' : But [] w w9 := hb8'.trans hb9 (by simp)
          clear hb9 hM8 hb8' ho8 hov8
          go_wp2_with fail
          refine (size_at (p := p) ((k : Int) + 1) hM9 hp HP1.out.symm ((row rows k).length : Int) (by rw [HPL.out])).mono ?_
          rintro e w10 ⟨rfl, hb10⟩
          have hM10 := hM9.new hb10
          have hb10' : But [] w w10 := hb9'.trans hb10 (by simp)
          clear hb10 hM9 hb9'
          go_wp2_with fail
          refine (kind_at (p := p) ((k : Int) + 1) hM10 hp HP1.out.symm (1 + (k : Int) % 5) HP3.out.symm).mono ?_
          rintro e w11 ⟨rfl, hb11⟩
          have hM11 := hM10.new hb11
          have hb11' : But [] w w11 := hb10'.trans hb11 (by simp)
          clear hb11 hM10 hb10'
          go_wp2_with fail
          go_roundw
          case rel => exact ⟨k + 1, by omega, by go_num, hM11, hb11'⟩
          case measure => simp [intOf]; omega
    · obtain rfl : k = rows.length := by omega
      obtain ⟨p, hp, hp1, hp2, hp3⟩ := HS'.out.get hkl
      have HP1 := Lib.hid hp1
      have hwf : Wf ((kk : Int) + 1) := wf_of (by omega) (by omega)
      clear hp1 hp2 hp3
      go_wp2_with fail
      refine (free_at (p := p) ((kk : Int) + 1) hM hp HP1.out.symm).mono ?_
      rintro e w6 ⟨rfl, hb6, hM6⟩
      have hbt6 : But [] w w6 := hbw.trans hb6 (fun x hx => .inr (by simp at hx; omega))
      clear hM hb6 hbw
      dsimp only
      go_wp2_with fail
      refine (free_none _ _ _ _ ((kk : Int) + 1) _ _ hM6 hwf without_ne).mono ?_
      rintro e w7 ⟨rfl, hb7⟩
      have hM7 := hM6.new hb7
      have hbt7 : But [] w w7 := hbt6.trans hb7 (by simp)
      clear hM6 hb7 hbt6
      go_wp2_with fail
      refine (write_none _ _ _ _ ((kk : Int) + 1) 0 none 0 0 _ _ hM7 hwf without_ne).mono ?_
      rintro e w8 ⟨rfl, hb8⟩
      have hM8 := hM7.new hb8
      have hbt8 : But [] w w8 := hbt7.trans hb8 (by simp)
      clear hM7 hb8 hbt7
      go_wp2_with fail
      refine (kind_none _ _ _ _ ((kk : Int) + 1) _ _ hM8 hwf without_ne).mono ?_
      rintro e w9 ⟨rfl, hb9⟩
      have hM9 := hM8.new hb9
      have hbt9 : But [] w w9 := hbt8.trans hb9 (by simp)
      clear hM8 hb9 hbt8
      go_wp2_with fail
      refine (size_none _ _ _ _ ((kk : Int) + 1) _ _ hM9 hwf without_ne).mono ?_
      rintro e w10 ⟨rfl, hb10⟩
      have hM10 := hM9.new hb10
      have hbt10 : But [] w w10 := hbt9.trans hb10 (by simp)
      have hbase : w.heap.size ≤ w10.heap.size := hbt10.size
      have HSb := Lib.hid (HB.out.but hbt10 (by simp))
      clear hM9 hb10 hbt9
      rcases HSb.out with ⟨h, hbn⟩ | ⟨adb, cb, h, hcb, _⟩
      · simp only [Value.slice.injEq] at h
        obtain ⟨rfl, _, rfl⟩ := h
        subst hbn
        clear HSb
        go_wp2_with fail
        refine (make_at ((rows.length : Int) + 1) 4 none 0 0 [] hM10 rfl (by omega) (.inl ⟨rfl, rfl⟩) (by intro u hu; cases hu) rfl (by decide) (by omega) hbase).mono ?_
        rintro e w11 ⟨rfl, hb11, _⟩
        have hbt11 : But [] w w11 := hbt10.trans hb11 (fun x hx => .inr (by simp at hx; omega))
        clear hb11 hbt10 hM10
        dsimp only
        go_wp2_with fail
        go_ret
        exact ⟨rfl, hbt11⟩
      · simp only [Value.slice.injEq] at h
        obtain ⟨rfl, _, rfl⟩ := h
        by_cases hb4 : b.length ≤ 4096
        · have hmn : min (b.length : Int) 4096 = b.length := by omega
          go_wp2_with fail
          refine (make_at ((rows.length : Int) + 1) 4 _ b.length _ b hM10 rfl (by omega) HSb.out HBB.out rfl hb4 (by omega) hbase).mono ?_
          rintro e w11 ⟨rfl, hb11, _⟩
          have hbt11 : But [] w w11 := hbt10.trans hb11 (fun x hx => .inr (by simp at hx; omega))
          clear hb11 hbt10 hM10
          dsimp only
          go_wp2_with fail
          go_ret
          exact ⟨rfl, hbt11⟩
        · obtain ⟨m4, hm4⟩ : ∃ m4 : Nat, m4 = 4096 := ⟨_, rfl⟩
          have hmn : (if (4096 : Int) < (b.length : Int) then (4096 : Int) else (b.length : Int)) = m4 := by rw [if_pos (by omega)]; omega
          have hm5 : m4 ≤ b.length := by omega
          have hm6 : m4 ≤ 4096 := by omega
          clear hm4 hb4
          have HST := Lib.hid (sees_take HSb.out hm5)
          go_wp2_with fail
          refine (make_at ((rows.length : Int) + 1) 4 _ m4 _ (b.take m4) hM10 rfl (by omega) HST.out (isBytes_take HBB.out _) (by rw [List.length_take]; omega) (by rw [List.length_take]; omega) (by omega) hbase).mono ?_
          rintro e w11 ⟨rfl, hb11, _⟩
          have hbt11 : But [] w w11 := hbt10.trans hb11 (fun x hx => .inr (by simp at hx; omega))
          clear hb11 hbt10 hM10
          dsimp only
          go_wp2_with fail
          go_ret
          exact ⟨rfl, hbt11⟩
end Go.Proofs.Ytmleaogklpogdaa.M
