/-
  hatchwaykit.flatBytes: the walk, the fourth and the third loop.
-/
import Derived.Test.YtddeckkcfcodbaaGreatFlatA
import Derived.Deep.DeepCutAuto
import Derived.Deep.CutBlock
import Derived.BigQuiet
import Derived.Deep.QuietTactic
import Derived.StillTailTactics
namespace Go.Proofs.YtddeckkcfcodbaaGreat.M
open Go.RowKit
set_option linter.unusedVariables false
set_option linter.unusedSectionVars false
set_option linter.unusedSimpArgs false
theorem grown5_step {w wr w' : World} {vals : List Value} {n : Nat → Nat} {ls : Value} {gb k : Nat} {v G' : Value} {ys : List Value}
    (hF : FS w wr vals n ls) (hG : Grown5 w wr vals n (.slice (some ⟨gb, 0, none⟩) vals.length vals.length) k) (hA : ApartV vals) (hlow : ∀ (k : Nat) (v : Value) (b : Nat), vals[k]? = some v → v.ownBlock = some b → b < w.heap.size) (hls : ∀ b, ls.ownBlock = some b → b < w.heap.size) (hgb : w.heap.size ≤ gb)
    (hk : k < vals.length) (hv : vals[k]? = some v) (hap : Appended wr w' 5 v G' (marks k (n k)) ys) (hys : ys.length = 64) :
    FS w (w'.setCell ⟨gb, 0 + k, none⟩ G') vals n ls ∧ Grown5 w (w'.setCell ⟨gb, 0 + k, none⟩ G') vals n (.slice (some ⟨gb, 0, none⟩) vals.length vals.length) (k + 1) := by
  obtain ⟨gv, h1, h2, h3⟩ := hG
  obtain ⟨hq, hc⟩ := hap
  have hwr := hF.but.size
  have key : FS w w' vals n ls ∧ OwnQ w' 22 (.slice (some ⟨gb, 0, none⟩) vals.length vals.length) gv ∧ (∀ (j : Nat) (G v : Value), j < k → gv[j]? = some G → vals[j]? = some v → ∃ xs, GOk w.heap.size w' G v xs ∧ xs.length = n j + 64 ∧ xs.take (n j) = marks j (n j)) ∧ GOk w.heap.size w' G' v (marks k (n k) ++ ys) := by
    rcases hc with ⟨a, cap, e1, e2, ho, hb⟩ | ⟨hnew, hb⟩
    · refine ⟨hF.row hA hv hb ho, h2.but hb (fun b hbl hm => ?_), fun j G u hj hGj hu => ?_, hq, .inl ?_⟩
      · cases hbl
        have := hlow k v gb hv (by simpa using hm)
        omega
      · obtain ⟨xs, h4, h5⟩ := h3 j G u hj hGj hu
        exact ⟨xs, h4.other hA hu hv (by omega) (fun b hb => hlow k v b hv hb) hb, h5⟩
      · rw [e1, e2]; cases a <;> rfl
    · refine ⟨hF.new hb, h2.but hb (by simp), fun j G u hj hGj hu => ?_, hq, .inr ⟨_, hnew, hwr⟩⟩
      obtain ⟨xs, h4, h5⟩ := h3 j G u hj hGj hu
      exact ⟨xs, h4.new hb, h5⟩
  obtain ⟨k1, k2, k3, k4⟩ := key
  have hbs : But [gb] w' (w'.setCell ⟨gb, 0 + k, none⟩ G') := (But.refl _ _).setCell (.inl (by simp)) _
  have hgo : ∀ {G v : Value} {xs : List Value}, GOk w.heap.size w' G v xs → GOk w.heap.size (w'.setCell ⟨gb, 0 + k, none⟩ G') G v xs := fun h => ⟨h.1.but hbs (fun b hbl hm => by
    simp only [List.mem_singleton] at hm
    subst hm
    exact h.1.ne k2 (by decide) hbl rfl), h.2⟩
  refine ⟨k1.old hbs (fun x hx => by simp at hx; omega) (fun x hx hm => ?_) (fun b hb hm => ?_), gv.set k G', by simpa using h1, k2.set k (by omega) G', fun j G u hj hGj hu => ?_⟩
  · simp only [List.mem_singleton] at hx
    subst hx
    obtain ⟨k', v', h4, h5⟩ := of_blks hm
    have := hlow k' v' _ h4 h5
    omega
  · simp only [List.mem_singleton] at hm
    have := hls b hb
    omega
  · by_cases hjk : j = k
    · subst hjk
      rw [List.getElem?_set_self (by omega)] at hGj
      cases hGj
      rw [hv] at hu
      cases hu
      refine ⟨_, hgo k4, by rw [List.length_append, marks_len, hys], ?_⟩
      rw [List.take_append_of_le_length (by rw [marks_len]; exact Nat.le_refl _), List.take_of_length_le (by rw [marks_len]; exact Nat.le_refl _)]
    · rw [List.getElem?_set_ne (Ne.symm hjk)] at hGj
      obtain ⟨xs, h4, h5⟩ := k3 j G u (by omega) hGj hu
      exact ⟨xs, hgo h4, h5⟩
theorem Grown5.old {w wr w' : World} {vals : List Value} {n : Nat → Nat} {gb K m : Nat} (h : Grown5 w wr vals n (.slice (some ⟨gb, 0, none⟩) vals.length vals.length) K) (hb : But [m] wr w') (hm : wr.heap.size ≤ m) : Grown5 w w' vals n (.slice (some ⟨gb, 0, none⟩) vals.length vals.length) K := h.new (hb.new (by simpa using hm))
theorem made_que (w : World) (m : Nat) (hm : m ≤ maxLen) : OwnQ (w.alloc (.cells (madeCells #[.int .u8 0] m) 5)) 5 (.slice (some ⟨w.heap.size, 0, none⟩) m m) (madeCells #[.int .u8 0] m).toList := by
  refine .inr ⟨w.heap.size, 0, m, madeCells #[.int .u8 0] m, by rw [Array.length_toList, size_madeCells], Array.getElem?_push_size, by rw [Array.length_toList, size_madeCells]; exact Nat.le_refl _, hm, by rw [size_madeCells]; omega, fun j u hj => by simpa using hj⟩
theorem made_bytes (m : Nat) : IsBytes (madeCells #[.int .u8 0] m).toList := by
  intro u hu
  simp only [madeCells, Array.toList_map, List.mem_map] at hu
  obtain ⟨i, _, rfl⟩ := hu
  exact ⟨0, by simp [Nat.mod_one]⟩
theorem set_bytes {xs : List Value} (h : IsBytes xs) (i : Nat) (m : Int) : IsBytes (xs.set i (.int .u8 m)) := by
  intro u hu
  rcases List.mem_or_eq_of_mem_set hu with h1 | h1
  · exact h u h1
  · exact ⟨m, h1⟩
noncomputable def code_fl5 : Code := dropSeq 5 (Tryz.f51.body.getD .skip)
set_option maxRecDepth 100000 in
set_option maxHeartbeats 4000000 in
theorem fl5 {w : World} {vals : List Value} {n : Nat → Nat} {lg lo lc : Nat} {gb : Nat} {w1 : World} {u1 u2 u3 u4 u6 u7 u8 u9 u10 u11 u12 u13 u14 u15 u16 u17 u18 u19 u20 u21 u22 u23 u24 u25 u26 u27 u28 u29 u30 u31 u32 u33 u34 u35 u36 u37 u38 u39 u40 u41 u42 u43 u44 u45 u46 u47 u48 u49 u50 u51 u52 u53 u54 u55 u56 u57 u58 u59 u60 u61 u62 u63 u64 u65 u66 u67 u68 u69 u70 u71 u72 u73 u74 u75 u76 u77 u78 u79 u80 u81 u82 u83 u84 u85 u86 u87 u88 u89 u90 u91 u92 u93 u94 u95 u96 u97 u98 u99 u100 u101 u102 u103 u104 u105 u106 u107 u108 u109 u110 u111 u112 u113 u114 u115 u116 u117 u118 u119 u120 u121 u122 u123 u124 u125 u126 u127 u128 u129 u130 u131 u132 u133 u134 u135 u136 u137 u138 u139 u140 u141 u142 u143 u144 u145 u146 u147 u148 u149 u150 u151 u152 u153 u154 u155 u156 u157 u158 u159 u160 u161 u162 u163 u164 u165 u166 u167 u168 u169 u170 u171 u172 u173 u174 u175 u176 u177 u178 u179 u180 u181 u182 u183 u184 u185 u186 u187 u188 u189 u190 u191 u192 : Value} (HA : Hid (ApartV vals)) (HN : Hid (∀ (k : Nat) (v : Value), vals[k]? = some v → (∃ a c, v = .slice a (n k) c) ∧ n k ≤ 1000000000000)) (hK : vals.length ≤ 1000000) (HLOW : Hid (∀ (k : Nat) (v : Value) (b : Nat), vals[k]? = some v → v.ownBlock = some b → b < w.heap.size)) (hlg : lg < w.heap.size) (HF : Hid (FS w w1 vals n (.slice (some ⟨lg, lo, none⟩) vals.length lc))) (hgb : w.heap.size ≤ gb) (HG : Hid (Grown3 w w1 vals n (.slice (some ⟨gb, 0, none⟩) vals.length vals.length) vals.length)) :
    Code.wp Tryz.prog code_fl5 (bodyPost Tryz.prog Tryz.f51 fun e w' => e = .returned (.bool true) ∧ But (blks vals) w w') { tmps := List.toArray (.slice (some ⟨lg, lo, none⟩) vals.length lc :: u1 :: u2 :: u3 :: u4 :: .slice (some ⟨gb, 0, none⟩) vals.length vals.length :: u6 :: u7 :: u8 :: u9 :: u10 :: u11 :: u12 :: u13 :: u14 :: u15 :: u16 :: u17 :: u18 :: u19 :: u20 :: u21 :: u22 :: u23 :: u24 :: u25 :: u26 :: u27 :: u28 :: u29 :: u30 :: u31 :: u32 :: u33 :: u34 :: u35 :: u36 :: u37 :: u38 :: u39 :: u40 :: u41 :: u42 :: u43 :: u44 :: u45 :: u46 :: u47 :: u48 :: u49 :: u50 :: u51 :: u52 :: u53 :: u54 :: u55 :: u56 :: u57 :: u58 :: u59 :: u60 :: u61 :: u62 :: u63 :: u64 :: u65 :: u66 :: u67 :: u68 :: u69 :: u70 :: u71 :: u72 :: u73 :: u74 :: u75 :: u76 :: u77 :: u78 :: u79 :: u80 :: u81 :: u82 :: u83 :: u84 :: u85 :: u86 :: u87 :: u88 :: u89 :: u90 :: u91 :: u92 :: u93 :: u94 :: u95 :: u96 :: u97 :: u98 :: u99 :: u100 :: u101 :: u102 :: u103 :: u104 :: u105 :: u106 :: u107 :: u108 :: u109 :: u110 :: u111 :: u112 :: u113 :: u114 :: u115 :: u116 :: u117 :: u118 :: u119 :: u120 :: u121 :: u122 :: u123 :: u124 :: u125 :: u126 :: u127 :: u128 :: u129 :: u130 :: u131 :: u132 :: u133 :: u134 :: u135 :: u136 :: u137 :: u138 :: u139 :: u140 :: u141 :: u142 :: u143 :: u144 :: u145 :: u146 :: u147 :: u148 :: u149 :: u150 :: u151 :: u152 :: u153 :: u154 :: u155 :: u156 :: u157 :: u158 :: u159 :: u160 :: u161 :: u162 :: u163 :: u164 :: u165 :: u166 :: u167 :: u168 :: u169 :: u170 :: u171 :: u172 :: u173 :: u174 :: u175 :: u176 :: u177 :: u178 :: u179 :: u180 :: u181 :: u182 :: u183 :: u184 :: u185 :: u186 :: u187 :: u188 :: u189 :: u190 :: u191 :: u192 :: []), defers := [] } w1 := by
  conv => arg 2; whnf
  obtain ⟨i0, hi, hz0, hz1, hz2⟩ := info_parts (show (Tryz.prog.info? 5).map (fun i => (i.zero, i.size, i.bytes)) = some (some (.int .u8 0), 1, 1) by kernel_rfl)
  have hmk : ∀ w, (Instr.makeSlice 22 (.int .i64 64) (.int .i64 64)).run Tryz.prog w = .ok (.slice (some ⟨w.heap.size, 0, none⟩) 64 64) (w.alloc (.cells (madeCells #[.int .u8 0] 64) 5)) := fun w => by
    have h := run_make (P := Tryz.prog) w 22 5 i0 (.int .u8 0) Tryz.underlying22 hi hz0 .i64 .i64 64 64 (by omega) (by omega) (by rw [hz2]; omega) (by omega)
    rw [h, hz1]
    rfl
  have HG0 : Hid (Grown5 w w1 vals n (.slice (some ⟨gb, 0, none⟩) vals.length vals.length) 0) := Lib.hid (by
    obtain ⟨gv, h1, h2, _⟩ := HG.out
    exact ⟨gv, h1, h2, fun j G v hj => by omega⟩)
  go_upto_block 12 with fail
  go_cut [] (fun wx => FS w wx vals n (.slice (some ⟨lg, lo, none⟩) vals.length lc) ∧ Grown5 w wx vals n (.slice (some ⟨gb, 0, none⟩) vals.length vals.length) vals.length)
  case first =>
    go_wp2_with fail
    go_loopw [11] (fun i wr => ∃ k : Nat, k ≤ vals.length ∧ i = .int .i64 k ∧ FS w wr vals n (.slice (some ⟨lg, lo, none⟩) vals.length lc) ∧ Grown5 w wr vals n (.slice (some ⟨gb, 0, none⟩) vals.length vals.length) k) (fun i _ => vals.length - (intOf i).toNat)
    case atStart => exact ⟨0, Nat.zero_le _, rfl, HF.out, HG0.out⟩
    case round =>
      obtain ⟨k, hk, rfl, hF, hG⟩ := hrel
      have HF := Lib.hid hF
      have HG := Lib.hid hG
      clear hF hG HG0
      by_cases hlt : k < vals.length
      · obtain ⟨a, c, hv, hnk⟩ := vals_at HN hlt
        have HV := Lib.hid hv
        have hk0 : (0 : Int) ≤ k := by omega
        have hk1 : (k : Int) < vals.length := by omega
        obtain ⟨wo, hwo⟩ : ∃ wo : World, wo = wr := ⟨_, rfl⟩
        have HM0 := Lib.hid (made_que wr 64 (by unfold maxLen; omega))
        have HB0 : Hid (But [] wr (wr.alloc (.cells (madeCells #[.int .u8 0] 64) 5))) := Lib.hid ((But.refl _ _).alloc _)
        have hwz : w.heap.size ≤ wr.heap.size := HF.out.but.size
        obtain ⟨mb0, hmb0⟩ : ∃ m : Nat, m = wr.heap.size := ⟨_, rfl⟩
        have HMB := Lib.hid hmb0
        clear hv hwo hwz hmb0
        go_wp2_with fail
        rw [← HMB.out]
        rw [← HMB.out] at HM0
        go_loopw [13] (fun i wx => ∃ (j : Nat) (ys : List Value), j ≤ 64 ∧ i = .int .i64 j ∧ But [] wr wx ∧ OwnQ wx 5 (.slice (some ⟨mb0, 0, none⟩) 64 64) ys ∧ IsBytes ys ∧ ys.length = 64) (fun i _ => 64 - (intOf i).toNat)
        case atStart => exact ⟨0, _, Nat.zero_le _, rfl, HB0.out, HM0.out, made_bytes 64, by rw [Array.length_toList, size_madeCells]⟩
        case round =>
          obtain ⟨j, ys, hj, rfl, hB, hM, hy, hyl⟩ := hrel
          have HB := Lib.hid hB
          have HM := Lib.hid hM
          have HY := Lib.hid hy
          have HYL := Lib.hid hyl
          clear hB hM hy hyl HM0 HB0
          by_cases hjl : j < 64
          · obtain ⟨y, hy⟩ : ∃ y, ys[j]? = some y := ⟨_, List.getElem?_eq_getElem (by rw [HYL.out]; exact hjl)⟩
            have c1 : wr.cell? ⟨mb0, j, none⟩ = some y := by have := HM.out.cellAt hy; rwa [Nat.zero_add] at this
            have f1 : wr.frozen? ⟨mb0, j, none⟩ = false := HM.out.frozenAt j
            have hj0 : (0 : Int) ≤ j := by omega
            have hj1 : (j : Int) < 64 := by omega
            have HSET := Lib.hid (fun u => HM.out.set j (by rw [HYL.out]; exact hjl) u)
            clear hy
            go_wp2_with (go_at_call 43; refine (markB _ _ _).mono ?_; rintro e w1 ⟨rfl, rfl⟩)
            go_roundw
            case rel =>
              refine ⟨j + 1, ys.set j (.int .u8 (mb ((k : Int) + vals.length) j)), by omega, by go_num, HB.out.setCell (.inr (by rw [HMB.out]; exact Nat.le_refl _)) _, ?_, set_bytes HY.out _ _, by rw [List.length_set]; exact HYL.out⟩
              have h := HSET.out (.int .u8 (mb ((k : Int) + vals.length) j))
              rwa [Nat.zero_add] at h
            case measure => simp [intOf]; omega
          · obtain rfl : j = 64 := by omega
            have HF4 := Lib.hid (HF.out.new HB.out)
            have HG4 := Lib.hid (HG.out.new HB.out)
            have hF4 := HF4.out
            have lc1 : wr.cell? ⟨lg, lo + k, none⟩ = some (.slice a (n k) c) := hF4.lsq.cellAt HV.out
            have HQ : Hid (OwnQ wr 5 (.slice a (n k) c) (marks k (n k))) := Lib.hid (hF4.rows k _ HV.out)
            have HSRC : Hid (Src Tryz.prog i0.size 22 (.slice (some ⟨mb0, 0, none⟩) 64 64) ys.length ys wr) := Lib.hid (src_sees Tryz.underlying22 hz1 (by
              have h := HM.out.sees
              exact h) HY.out.one)
            have key : ∀ (v' : Value) (w5 : World), Appended wr w5 5 (.slice a (n k) c) v' (marks k (n k)) ys → ∃ a' c', v' = Value.slice a' (n k + 64) c' ∧ (∃ u, w5.cell? ⟨gb, k, none⟩ = some u) ∧ w5.frozen? ⟨gb, k, none⟩ = false ∧ FS w (w5.setCell ⟨gb, k, none⟩ v') vals n (.slice (some ⟨lg, lo, none⟩) vals.length lc) ∧ Grown5 w (w5.setCell ⟨gb, k, none⟩ v') vals n (.slice (some ⟨gb, 0, none⟩) vals.length vals.length) (k + 1) := fun v' w5 hap => by
              have h := grown5_step HF4.out HG4.out HA.out HLOW.out (fun b hb => by cases hb; exact hlg) hgb hlt HV.out hap HYL.out
              rw [Nat.zero_add] at h
              obtain ⟨a', c', e⟩ := hap.1.form
              obtain ⟨gv, h1, h2, _⟩ := h.2
              have hc5 : ∃ u, w5.cell? ⟨gb, k, none⟩ = some u ∧ w5.frozen? ⟨gb, k, none⟩ = false := by
                obtain ⟨gv4, h41, h42, _⟩ := HG4.out
                have hb45 : But (Value.slice a (n k) c).ownBlock.toList wr w5 := by
                  rcases hap.2 with ⟨_, _, _, _, _, hb⟩ | ⟨_, hb⟩
                  · exact hb
                  · exact hb.mono (by simp)
                have h43 := h42.but hb45 (fun b hb hm => by
                  cases hb
                  have := HLOW.out k _ gb HV.out (by simpa using hm)
                  omega)
                obtain ⟨u, hu⟩ : ∃ u, gv4[k]? = some u := ⟨_, List.getElem?_eq_getElem (by omega)⟩
                have h44 := h43.cellAt hu
                rw [Nat.zero_add] at h44
                exact ⟨u, h44, h43.frozenAt k⟩
              obtain ⟨u, hu, hfz⟩ := hc5
              exact ⟨a', c', by rw [e, List.length_append, marks_len, HYL.out], ⟨u, hu⟩, hfz, h.1, h.2⟩
            have KEY := Lib.hid key
            have hbound : (marks k (n k)).length + ys.length ≤ 1000000000064 := by rw [marks_len, HYL.out]; omega
            clear hF4 key
            go_wp2_with (at_builtin; refine wpList_append_row rfl _ _ 22 rfl 5 i0 (.int .u8 0) 1 Tryz.underlying22 hi hz0 hz1 hz2 rfl _ (marks k (n k)) rfl HQ.out ys _ rfl HSRC.out (by unfold maxLen; omega) (by omega) ?_; intro v' w5 hap; obtain ⟨a5, c5, rfl, ⟨u5, gc5⟩, gf5, hF5, hG5⟩ := KEY.out _ _ hap; have HF5 := Lib.hid hF5; have HG5 := Lib.hid hG5; clear hap hF5 hG5)
            go_roundw
            case rel => exact ⟨k + 1, by omega, by go_num, HF5.out, HG5.out⟩
            case measure => simp [intOf]; omega
      · obtain rfl : k = vals.length := by omega
        go_wp2_with fail
        go_meet
        exact ⟨HF.out, HG.out⟩
  case rest =>
    obtain ⟨hF, hG⟩ := hcut
    refine (by assumption : ∀ (a : Act) (w1 : World), Code.wp Tryz.prog _ _ a w1 → _) _ _ ?_
    exact fl6 HA HN hK HLOW hlg (Lib.hid hF) (Lib.hid hG)
noncomputable def code_fl4 : Code := dropSeq 4 (Tryz.f51.body.getD .skip)
set_option maxRecDepth 100000 in
set_option maxHeartbeats 4000000 in
theorem fl4 {w : World} {vals : List Value} {n : Nat → Nat} {lg lo lc : Nat} {gb : Nat} {w1 : World} {u1 u2 u3 u4 u6 u7 u8 u9 u10 u11 u12 u13 u14 u15 u16 u17 u18 u19 u20 u21 u22 u23 u24 u25 u26 u27 u28 u29 u30 u31 u32 u33 u34 u35 u36 u37 u38 u39 u40 u41 u42 u43 u44 u45 u46 u47 u48 u49 u50 u51 u52 u53 u54 u55 u56 u57 u58 u59 u60 u61 u62 u63 u64 u65 u66 u67 u68 u69 u70 u71 u72 u73 u74 u75 u76 u77 u78 u79 u80 u81 u82 u83 u84 u85 u86 u87 u88 u89 u90 u91 u92 u93 u94 u95 u96 u97 u98 u99 u100 u101 u102 u103 u104 u105 u106 u107 u108 u109 u110 u111 u112 u113 u114 u115 u116 u117 u118 u119 u120 u121 u122 u123 u124 u125 u126 u127 u128 u129 u130 u131 u132 u133 u134 u135 u136 u137 u138 u139 u140 u141 u142 u143 u144 u145 u146 u147 u148 u149 u150 u151 u152 u153 u154 u155 u156 u157 u158 u159 u160 u161 u162 u163 u164 u165 u166 u167 u168 u169 u170 u171 u172 u173 u174 u175 u176 u177 u178 u179 u180 u181 u182 u183 u184 u185 u186 u187 u188 u189 u190 u191 u192 : Value} (HA : Hid (ApartV vals)) (HN : Hid (∀ (k : Nat) (v : Value), vals[k]? = some v → (∃ a c, v = .slice a (n k) c) ∧ n k ≤ 1000000000000)) (hK : vals.length ≤ 1000000) (HLOW : Hid (∀ (k : Nat) (v : Value) (b : Nat), vals[k]? = some v → v.ownBlock = some b → b < w.heap.size)) (hlg : lg < w.heap.size) (HF : Hid (FS w w1 vals n (.slice (some ⟨lg, lo, none⟩) vals.length lc))) (hgb : w.heap.size ≤ gb) (HG : Hid (Grown3 w w1 vals n (.slice (some ⟨gb, 0, none⟩) vals.length vals.length) vals.length)) :
    Code.wp Tryz.prog code_fl4 (bodyPost Tryz.prog Tryz.f51 fun e w' => e = .returned (.bool true) ∧ But (blks vals) w w') { tmps := List.toArray (.slice (some ⟨lg, lo, none⟩) vals.length lc :: u1 :: u2 :: u3 :: u4 :: .slice (some ⟨gb, 0, none⟩) vals.length vals.length :: u6 :: u7 :: u8 :: u9 :: u10 :: u11 :: u12 :: u13 :: u14 :: u15 :: u16 :: u17 :: u18 :: u19 :: u20 :: u21 :: u22 :: u23 :: u24 :: u25 :: u26 :: u27 :: u28 :: u29 :: u30 :: u31 :: u32 :: u33 :: u34 :: u35 :: u36 :: u37 :: u38 :: u39 :: u40 :: u41 :: u42 :: u43 :: u44 :: u45 :: u46 :: u47 :: u48 :: u49 :: u50 :: u51 :: u52 :: u53 :: u54 :: u55 :: u56 :: u57 :: u58 :: u59 :: u60 :: u61 :: u62 :: u63 :: u64 :: u65 :: u66 :: u67 :: u68 :: u69 :: u70 :: u71 :: u72 :: u73 :: u74 :: u75 :: u76 :: u77 :: u78 :: u79 :: u80 :: u81 :: u82 :: u83 :: u84 :: u85 :: u86 :: u87 :: u88 :: u89 :: u90 :: u91 :: u92 :: u93 :: u94 :: u95 :: u96 :: u97 :: u98 :: u99 :: u100 :: u101 :: u102 :: u103 :: u104 :: u105 :: u106 :: u107 :: u108 :: u109 :: u110 :: u111 :: u112 :: u113 :: u114 :: u115 :: u116 :: u117 :: u118 :: u119 :: u120 :: u121 :: u122 :: u123 :: u124 :: u125 :: u126 :: u127 :: u128 :: u129 :: u130 :: u131 :: u132 :: u133 :: u134 :: u135 :: u136 :: u137 :: u138 :: u139 :: u140 :: u141 :: u142 :: u143 :: u144 :: u145 :: u146 :: u147 :: u148 :: u149 :: u150 :: u151 :: u152 :: u153 :: u154 :: u155 :: u156 :: u157 :: u158 :: u159 :: u160 :: u161 :: u162 :: u163 :: u164 :: u165 :: u166 :: u167 :: u168 :: u169 :: u170 :: u171 :: u172 :: u173 :: u174 :: u175 :: u176 :: u177 :: u178 :: u179 :: u180 :: u181 :: u182 :: u183 :: u184 :: u185 :: u186 :: u187 :: u188 :: u189 :: u190 :: u191 :: u192 :: []), defers := [] } w1 := by
  conv => arg 2; whnf
  go_upto_block 8 with fail
  go_cut [] (fun wx => But [] w1 wx)
  case first =>
    go_wp2_with fail
    go_loopw [9] (fun i wr => ∃ k : Nat, k ≤ vals.length ∧ i = .int .i64 k ∧ But [] w1 wr) (fun i _ => vals.length - (intOf i).toNat)
    case atStart => exact ⟨0, Nat.zero_le _, rfl, But.refl _ _⟩
    case round =>
      obtain ⟨k, hk, rfl, hb⟩ := hrel
      have HB := Lib.hid hb
      clear hb
      by_cases hlt : k < vals.length
      · obtain ⟨a, c, hv, hnk⟩ := vals_at HN hlt
        obtain ⟨gv, hgl, hgq, hgr⟩ := HG.out
        obtain ⟨G, hG⟩ : ∃ G, gv[k]? = some G := ⟨_, List.getElem?_eq_getElem (by omega)⟩
        have hgo := hgr k G _ hlt hG hv
        obtain ⟨ag, cg, eg⟩ := hgo.1.form
        rw [marks_len] at eg
        subst eg
        obtain ⟨gg, go, rfl⟩ := hgo.1.addr (by omega)
        have hk0 : (0 : Int) ≤ k := by omega
        have hk1 : (k : Int) < vals.length := by omega
        have lc1 : w1.cell? ⟨lg, lo + k, none⟩ = some (.slice a (n k) c) := HF.out.lsq.cellAt hv
        have gc1 : w1.cell? ⟨gb, k, none⟩ = some (.slice (some ⟨gg, go, none⟩) (n k + 64) cg) := by have := hgq.cellAt hG; rwa [Nat.zero_add] at this
        have HV := Lib.hid hv
        have HGO := Lib.hid hgo
        have HL1 := Lib.hid lc1
        have HG1 := Lib.hid gc1
        clear hv hgl hgq hgr hG hgo lc1 gc1
        go_wp2_with fail
        go_loopw [10] (fun i wx => ∃ j : Nat, j ≤ n k + 64 ∧ i = .int .i64 j ∧ But [] w1 wx) (fun i _ => n k + 64 - (intOf i).toNat)
        case atStart => exact ⟨0, Nat.zero_le _, rfl, HB.out⟩
        case round =>
          obtain ⟨j, hj, rfl, hbx⟩ := hrel
          have lc3 : wr.cell? ⟨lg, lo + k, none⟩ = some (.slice a (n k) c) := cell_but hbx HL1.out (by simp)
          have gc3 : wr.cell? ⟨gb, k, none⟩ = some (.slice (some ⟨gg, go, none⟩) (n k + 64) cg) := cell_but hbx HG1.out (by simp)
          have HBX := Lib.hid hbx
          by_cases hjl : j < n k + 64
          · have r2 : wr.cell? ⟨gg, go + j, none⟩ = some (.int .u8 (mb k j)) := cell_but hbx (HGO.out.1.cellAt (marks_at hjl)) (by simp)
            have hj0 : (0 : Int) ≤ j := by omega
            have hj2 : (j : Int) < (n k : Int) + 64 := by omega
            by_cases hjn : j < n k
            · obtain ⟨g, o, rfl⟩ := (HF.out.rows k _ HV.out).addr (by omega)
              have r1 : wr.cell? ⟨g, o + j, none⟩ = some (.int .u8 (mb k j)) := cell_but hbx ((HF.out.rows k _ HV.out).cellAt (marks_at hjn)) (by simp)
              have hj1 : (j : Int) < n k := by omega
              have d1 : decide (j < n k) = true := by simpa using hjn
              clear hbx
              go_wp2_with fail
              go_quiet ((go_at_call 43; exact Calls.quiet_of_same (markB' _ _ _)))
              go_wp2_with fail
              go_roundw
              case rel => exact ⟨j + 1, by omega, by go_num, HBX.out.drewN _⟩
              case measure => simp [intOf]; omega
            · have d1 : decide (j < n k) = false := by simpa using hjn
              clear hbx
              go_wp2_with fail
              go_quiet ((go_at_call 43; exact Calls.quiet_of_same (markB' _ _ _)))
              go_wp2_with fail
              go_roundw
              case rel => exact ⟨j + 1, by omega, by go_num, HBX.out.drewN _⟩
              case measure => simp [intOf]; omega
          · obtain rfl : j = n k + 64 := by omega
            go_wp2_with fail
            go_roundw
            case rel => exact ⟨k + 1, by omega, by go_num, HBX.out⟩
            case measure => simp [intOf]; omega
      · obtain rfl : k = vals.length := by omega
        go_wp2_with fail
        go_meet
        exact HB.out
  case rest =>
    refine (by assumption : ∀ (a : Act) (w1 : World), Code.wp Tryz.prog _ _ a w1 → _) _ _ ?_
    exact fl5 HA HN hK HLOW hlg (Lib.hid (HF.out.new hcut)) hgb (Lib.hid (HG.out.new hcut))
end Go.Proofs.YtddeckkcfcodbaaGreat.M
