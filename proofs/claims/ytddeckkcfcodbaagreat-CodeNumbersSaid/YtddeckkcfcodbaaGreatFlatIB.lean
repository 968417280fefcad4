/-
  hatchwaykit.flatProgram: the walk, the fourth and the third loop.
-/
import Derived.Test.YtddeckkcfcodbaaGreatFlatIA
import Derived.Deep.DeepCutAuto
import Derived.Deep.CutBlock
import Derived.BigQuiet
import Derived.Deep.QuietTactic
import Derived.StillTailTactics
import Derived.Deep.DrawnRows
namespace Go.Proofs.YtddeckkcfcodbaaGreat.M
open Go.RowKit Go.Shelf
set_option linter.unusedVariables false
set_option linter.unusedSectionVars false
set_option linter.unusedSimpArgs false
theorem grown5I_step {w wr w' : World} {vals : List Value} {n : Nat → Nat} {ls : Value} {gb k : Nat} {v G' : Value} {ys : List Ins}
    (hF : FI w wr vals n ls) (hG : Grown5I w wr vals n (.slice (some ⟨gb, 0, none⟩) vals.length vals.length) k) (hA : ApartV vals) (hlow : ∀ (k : Nat) (v : Value) (b : Nat), vals[k]? = some v → v.ownBlock = some b → b < w.heap.size) (hls : ∀ b, ls.ownBlock = some b → b < w.heap.size) (hgb : w.heap.size ≤ gb)
    (hk : k < vals.length) (hv : vals[k]? = some v) (hap : AppI wr w' v G' (marksI k (n k)) ys) (hys : ys.length = 64) :
    FI w (w'.setCell ⟨gb, 0 + k, none⟩ G') vals n ls ∧ Grown5I w (w'.setCell ⟨gb, 0 + k, none⟩ G') vals n (.slice (some ⟨gb, 0, none⟩) vals.length vals.length) (k + 1) := by
  obtain ⟨gv, h1, h2, h3⟩ := hG
  obtain ⟨hq, hc⟩ := hap
  have hwr := hF.but.size
  have key : FI w w' vals n ls ∧ OwnQ w' 28 (.slice (some ⟨gb, 0, none⟩) vals.length vals.length) gv ∧ (∀ (j : Nat) (G v : Value), j < k → gv[j]? = some G → vals[j]? = some v → ∃ xs, GI w.heap.size w' G v xs ∧ xs.length = n j + 64 ∧ xs.take (n j) = marksI j (n j)) ∧ GI w.heap.size w' G' v (marksI k (n k) ++ ys) := by
    rcases hc with ⟨a, cap, e1, e2, ho, hb⟩ | ⟨hnew, hb⟩
    · refine ⟨hF.row hA hv hb ho, h2.but hb (fun b hbl hm => ?_), fun j G u hj hGj hu => ?_, hq, .inl ?_⟩
      · cases hbl
        have := hlow k v gb hv (by simpa using hm)
        omega
      · obtain ⟨xs, h4, h5⟩ := h3 j G u hj hGj hu
        exact ⟨xs, h4.other hA hu hv (by omega) (fun b hb => hlow k v b hv hb) hb, h5⟩
      · rw [e1, e2]; cases a <;> rfl
    · refine ⟨hF.new hb, h2.but hb (by simp), fun j G u hj hGj hu => ?_, hq, .inr ⟨_, hnew, hwr⟩⟩
      obtain ⟨xs, h4, h5⟩ := h3 j G u hj hGj hu
      exact ⟨xs, h4.new hb, h5⟩
  obtain ⟨k1, k2, k3, k4⟩ := key
  have hbs : But [gb] w' (w'.setCell ⟨gb, 0 + k, none⟩ G') := (But.refl _ _).setCell (.inl (by simp)) _
  have hgo : ∀ {G v : Value} {xs : List Ins}, GI w.heap.size w' G v xs → GI w.heap.size (w'.setCell ⟨gb, 0 + k, none⟩ G') G v xs := fun h => ⟨h.1.but hbs (fun b hbl hm => by
    simp only [List.mem_singleton] at hm
    subst hm
    exact h.1.ne k2 (by decide) hbl rfl), h.2⟩
  refine ⟨k1.old hbs (fun x hx => by simp at hx; omega) (fun x hx hm => ?_) (fun b hb hm => ?_), gv.set k G', by simpa using h1, k2.set k (by omega) G', fun j G u hj hGj hu => ?_⟩
  · simp only [List.mem_singleton] at hx
    subst hx
    obtain ⟨k', v', h4, h5⟩ := of_blks hm
    have := hlow k' v' _ h4 h5
    omega
  · simp only [List.mem_singleton] at hm
    have := hls b hb
    omega
  · by_cases hjk : j = k
    · subst hjk
      rw [List.getElem?_set_self (by omega)] at hGj
      cases hGj
      rw [hv] at hu
      cases hu
      refine ⟨_, hgo k4, by rw [List.length_append, marksI_len, hys], ?_⟩
      rw [List.take_append_of_le_length (by rw [marksI_len]; exact Nat.le_refl _), List.take_of_length_le (by rw [marksI_len]; exact Nat.le_refl _)]
    · rw [List.getElem?_set_ne (Ne.symm hjk)] at hGj
      obtain ⟨xs, h4, h5⟩ := k3 j G u (by omega) hGj hu
      exact ⟨xs, hgo h4, h5⟩
theorem Grown5I.old {w wr w' : World} {vals : List Value} {n : Nat → Nat} {gb K m : Nat} (h : Grown5I w wr vals n (.slice (some ⟨gb, 0, none⟩) vals.length vals.length) K) (hb : But [m] wr w') (hm : wr.heap.size ≤ m) : Grown5I w w' vals n (.slice (some ⟨gb, 0, none⟩) vals.length vals.length) K := h.new (hb.new (by simpa using hm))
theorem set5 (w : World) (g k : Nat) (x : Ins) : w.setCells g k x.cells = ((((w.setCell ⟨g, k, none⟩ (.int .u8 x.op)).setCell ⟨g, k + 1, none⟩ (.int .u8 x.dst)).setCell ⟨g, k + 2, none⟩ (.int .u8 x.src)).setCell ⟨g, k + 3, none⟩ (.int .i16 x.off)).setCell ⟨g, k + 4, none⟩ (.int .i32 x.imm) := rfl
def zI : Ins := ⟨0, 0, 0, 0, 0⟩
def zA : Array Value := #[.int .u8 0, .int .u8 0, .int .u8 0, .int .i16 0, .int .i32 0]
theorem madeI_que (w : World) (m : Nat) (hm : m ≤ maxLen) : OwnI (w.alloc (.cells (madeCells zA (m * 5)) 27)) (.slice (some ⟨w.heap.size, 0, none⟩) m m) (List.replicate m zI) := by
  refine .inr ⟨w.heap.size, m, madeCells zA (m * 5), by rw [List.length_replicate], Array.getElem?_push_size, by rw [List.length_replicate]; exact Nat.le_refl _, hm, by rw [size_madeCells]; exact Nat.le_refl _, fun j u hj => ?_⟩
  have hjl := (List.getElem?_eq_some_iff.1 hj).1
  rw [flat_lenI, List.length_replicate] at hjl
  have h := flat_cellsI (List.replicate m zI) (j / 5) (j % 5) zI (by rw [List.getElem?_replicate, if_pos (by omega)]) (Nat.mod_lt _ (by decide))
  rw [show j / 5 * 5 + j % 5 = j by omega, hj] at h
  have h5 : j % 5 < 5 := Nat.mod_lt _ (by decide)
  have hz : (madeCells zA (m * 5))[j]? = some (zA[j % 5]!) := by simp [madeCells, hjl, zA]
  rw [hz, h]
  generalize j % 5 = q at h5 ⊢
  match q, h5 with
  | 0, _ => rfl
  | 1, _ => rfl
  | 2, _ => rfl
  | 3, _ => rfl
  | 4, _ => rfl
noncomputable def code_gl5 : Code := dropSeqI 5 (Tryz.f54.body.getD .skip)
set_option maxRecDepth 100000 in
set_option maxHeartbeats 4000000 in
theorem gl5 {w : World} {vals : List Value} {n : Nat → Nat} {lg lo lc : Nat} {gb : Nat} {w1 : World} {u1 u2 u3 u4 u6 u7 u8 u9 u10 u11 u12 u13 u14 u15 u16 u17 u18 u19 u20 u21 u22 u23 u24 u25 u26 u27 u28 u29 u30 u31 u32 u33 u34 u35 u36 u37 u38 u39 u40 u41 u42 u43 u44 u45 u46 u47 u48 u49 u50 u51 u52 u53 u54 u55 u56 u57 u58 u59 u60 u61 u62 u63 u64 u65 u66 u67 u68 u69 u70 u71 u72 u73 u74 u75 u76 u77 u78 u79 u80 u81 u82 u83 u84 u85 u86 u87 u88 u89 u90 u91 u92 u93 u94 u95 u96 u97 u98 u99 u100 u101 u102 u103 u104 u105 u106 u107 u108 u109 u110 u111 u112 u113 u114 u115 u116 u117 u118 u119 u120 u121 u122 u123 u124 u125 u126 u127 u128 u129 u130 u131 u132 u133 u134 u135 u136 u137 u138 u139 u140 u141 u142 u143 u144 u145 u146 u147 u148 u149 u150 u151 u152 u153 u154 u155 u156 u157 u158 u159 u160 u161 u162 u163 u164 u165 u166 u167 u168 u169 u170 u171 u172 u173 u174 u175 u176 u177 u178 u179 u180 u181 u182 u183 u184 u185 u186 u187 u188 u189 u190 u191 u192 : Value} (HA : Hid (ApartV vals)) (HN : Hid (∀ (k : Nat) (v : Value), vals[k]? = some v → (∃ a c, v = .slice a (n k) c) ∧ n k ≤ 1000000000000)) (hK : vals.length ≤ 1000000) (HLOW : Hid (∀ (k : Nat) (v : Value) (b : Nat), vals[k]? = some v → v.ownBlock = some b → b < w.heap.size)) (hlg : lg < w.heap.size) (HF : Hid (FI w w1 vals n (.slice (some ⟨lg, lo, none⟩) vals.length lc))) (hgb : w.heap.size ≤ gb) (HG : Hid (Grown3I w w1 vals n (.slice (some ⟨gb, 0, none⟩) vals.length vals.length) vals.length)) :
    Code.wp Tryz.prog code_gl5 (bodyPost Tryz.prog Tryz.f54 fun e w' => e = .returned (.bool true) ∧ But (blks vals) w w') { tmps := List.toArray (.slice (some ⟨lg, lo, none⟩) vals.length lc :: u1 :: u2 :: u3 :: u4 :: .slice (some ⟨gb, 0, none⟩) vals.length vals.length :: u6 :: u7 :: u8 :: u9 :: u10 :: u11 :: u12 :: u13 :: u14 :: u15 :: u16 :: u17 :: u18 :: u19 :: u20 :: u21 :: u22 :: u23 :: u24 :: u25 :: u26 :: u27 :: u28 :: u29 :: u30 :: u31 :: u32 :: u33 :: u34 :: u35 :: u36 :: u37 :: u38 :: u39 :: u40 :: u41 :: u42 :: u43 :: u44 :: u45 :: u46 :: u47 :: u48 :: u49 :: u50 :: u51 :: u52 :: u53 :: u54 :: u55 :: u56 :: u57 :: u58 :: u59 :: u60 :: u61 :: u62 :: u63 :: u64 :: u65 :: u66 :: u67 :: u68 :: u69 :: u70 :: u71 :: u72 :: u73 :: u74 :: u75 :: u76 :: u77 :: u78 :: u79 :: u80 :: u81 :: u82 :: u83 :: u84 :: u85 :: u86 :: u87 :: u88 :: u89 :: u90 :: u91 :: u92 :: u93 :: u94 :: u95 :: u96 :: u97 :: u98 :: u99 :: u100 :: u101 :: u102 :: u103 :: u104 :: u105 :: u106 :: u107 :: u108 :: u109 :: u110 :: u111 :: u112 :: u113 :: u114 :: u115 :: u116 :: u117 :: u118 :: u119 :: u120 :: u121 :: u122 :: u123 :: u124 :: u125 :: u126 :: u127 :: u128 :: u129 :: u130 :: u131 :: u132 :: u133 :: u134 :: u135 :: u136 :: u137 :: u138 :: u139 :: u140 :: u141 :: u142 :: u143 :: u144 :: u145 :: u146 :: u147 :: u148 :: u149 :: u150 :: u151 :: u152 :: u153 :: u154 :: u155 :: u156 :: u157 :: u158 :: u159 :: u160 :: u161 :: u162 :: u163 :: u164 :: u165 :: u166 :: u167 :: u168 :: u169 :: u170 :: u171 :: u172 :: u173 :: u174 :: u175 :: u176 :: u177 :: u178 :: u179 :: u180 :: u181 :: u182 :: u183 :: u184 :: u185 :: u186 :: u187 :: u188 :: u189 :: u190 :: u191 :: u192 :: []), defers := [] } w1 := by
  conv => arg 2; whnf
  obtain ⟨i0, hi, hz0, hz1, hz2⟩ := info_parts (show (Tryz.prog.info? 27).map (fun i => (i.zero, i.size, i.bytes)) = some (some (.agg #[.int .u8 0, .int .u8 0, .int .u8 0, .int .i16 0, .int .i32 0]), 5, 12) by kernel_rfl)
  have hmk : ∀ w, (Instr.makeSlice 28 (.int .i64 64) (.int .i64 64)).run Tryz.prog w = .ok (.slice (some ⟨w.heap.size, 0, none⟩) 64 64) (w.alloc (.cells (madeCells zA 320) 27)) := fun w => by
    have h := run_make (P := Tryz.prog) w 28 27 i0 (.agg zA) Tryz.underlying28 hi hz0 .i64 .i64 64 64 (by omega) (by omega) (by rw [hz2]; omega) (by omega)
    rw [h, hz1]
    rfl
  have HG0 : Hid (Grown5I w w1 vals n (.slice (some ⟨gb, 0, none⟩) vals.length vals.length) 0) := Lib.hid (by
    obtain ⟨gv, h1, h2, _⟩ := HG.out
    exact ⟨gv, h1, h2, fun j G v hj => by omega⟩)
  go_upto_block 12 with fail
  go_cut [] (fun wx => FI w wx vals n (.slice (some ⟨lg, lo, none⟩) vals.length lc) ∧ Grown5I w wx vals n (.slice (some ⟨gb, 0, none⟩) vals.length vals.length) vals.length)
  case first =>
    go_wp2_with fail
    go_loopw [11] (fun i wr => ∃ k : Nat, k ≤ vals.length ∧ i = .int .i64 k ∧ FI w wr vals n (.slice (some ⟨lg, lo, none⟩) vals.length lc) ∧ Grown5I w wr vals n (.slice (some ⟨gb, 0, none⟩) vals.length vals.length) k) (fun i _ => vals.length - (intOf i).toNat)
    case atStart => exact ⟨0, Nat.zero_le _, rfl, HF.out, HG0.out⟩
    case round =>
      obtain ⟨k, hk, rfl, hF, hG⟩ := hrel
      have HF := Lib.hid hF
      have HG := Lib.hid hG
      clear hF hG HG0
      by_cases hlt : k < vals.length
      · obtain ⟨a, c, hv, hnk⟩ := valsI_at HN hlt
        have HV := Lib.hid hv
        have hk0 : (0 : Int) ≤ k := by omega
        have hk1 : (k : Int) < vals.length := by omega
        obtain ⟨wo, hwo⟩ : ∃ wo : World, wo = wr := ⟨_, rfl⟩
        have HM0 := Lib.hid (madeI_que wr 64 (by unfold maxLen; omega))
        have HB0 : Hid (But [] wr (wr.alloc (.cells (madeCells zA 320) 27))) := Lib.hid ((But.refl _ _).alloc _)
        have hwz : w.heap.size ≤ wr.heap.size := HF.out.but.size
        obtain ⟨mb0, hmb0⟩ : ∃ m : Nat, m = wr.heap.size := ⟨_, rfl⟩
        have HMB := Lib.hid hmb0
        clear hv hwo hwz hmb0
        go_wp2_with fail
        rw [← HMB.out]
        rw [← HMB.out] at HM0
        go_loopw [13] (fun i wx => ∃ (j : Nat) (ys : List Ins), j ≤ 64 ∧ i = .int .i64 j ∧ But [] wr wx ∧ OwnI wx (.slice (some ⟨mb0, 0, none⟩) 64 64) ys ∧ ys.length = 64) (fun i _ => 64 - (intOf i).toNat)
        case atStart => exact ⟨0, _, Nat.zero_le _, rfl, HB0.out, HM0.out, by rw [List.length_replicate]⟩
        case round =>
          obtain ⟨j, ys, hj, rfl, hB, hM, hyl⟩ := hrel
          have HB := Lib.hid hB
          have HM := Lib.hid hM
          have HYL := Lib.hid hyl
          clear hB hM hyl HM0 HB0
          by_cases hjl : j < 64
          · obtain ⟨y, hy⟩ : ∃ y, ys[j]? = some y := ⟨_, List.getElem?_eq_getElem (by rw [HYL.out]; exact hjl)⟩
            have HY := Lib.hid hy
            have hj0 : (0 : Int) ≤ j := by omega
            have hj1 : (j : Int) < 64 := by omega
            clear hy
            go_wp2_with fail
            refine (markInstr _ _ _).mono ?_
            rintro e wm ⟨rfl, hbm⟩
            have HBM := Lib.hid (HB.out.trans hbm (by simp))
            have HMM := Lib.hid (HM.out.but hbm (by simp))
            obtain ⟨c0, c1, c2, c3, c4⟩ := HMM.out.at5 HY.out
            obtain ⟨f0, f1, f2, f3, f4⟩ := (⟨HMM.out.frozenAt (j * 5), HMM.out.frozenAt (j * 5 + 1), HMM.out.frozenAt (j * 5 + 2), HMM.out.frozenAt (j * 5 + 3), HMM.out.frozenAt (j * 5 + 4)⟩ : _ ∧ _ ∧ _ ∧ _ ∧ _)
            have hset := HMM.out.set j (by rw [HYL.out]; exact hjl) (mI ((k : Int) + vals.length) j)
            rw [set5] at hset
            have HSET := Lib.hid hset
            have hbs := but_set5 wm mb0 (j * 5) (mI ((k : Int) + vals.length) j)
            rw [set5] at hbs
            have HBS := Lib.hid hbs
            clear hset hbs
            clear hbm
            go_wp2_with fail
            go_roundw
            case rel => exact ⟨j + 1, ys.set j (mI ((k : Int) + vals.length) j), by omega, by go_num, HBM.out.trans HBS.out (fun x hx => .inr (by rw [HMB.out] at hx; simp at hx; omega)), HSET.out, by rw [List.length_set]; exact HYL.out⟩
            case measure => simp [intOf]; omega
          · obtain rfl : j = 64 := by omega
            have HF4 := Lib.hid (HF.out.new HB.out)
            have HG4 := Lib.hid (HG.out.new HB.out)
            have hF4 := HF4.out
            have lc1 : wr.cell? ⟨lg, lo + k, none⟩ = some (.slice a (n k) c) := hF4.lsq.cellAt HV.out
            have HQ : Hid (OwnI wr (.slice a (n k) c) (marksI k (n k))) := Lib.hid (hF4.rows k _ HV.out)
            have HSRC : Hid (Src Tryz.prog i0.size 28 (.slice (some ⟨mb0, 0, none⟩) 64 64) ys.length (ys.flatMap Ins.cells) wr) := Lib.hid (by rw [hz1]; exact src_ins Tryz.underlying28 HYL.out HM.out)
            have key : ∀ (v' : Value) (w5 : World), AppI wr w5 (.slice a (n k) c) v' (marksI k (n k)) ys → ∃ a' c', v' = Value.slice a' (n k + 64) c' ∧ (∃ u, w5.cell? ⟨gb, k, none⟩ = some u) ∧ w5.frozen? ⟨gb, k, none⟩ = false ∧ FI w (w5.setCell ⟨gb, k, none⟩ v') vals n (.slice (some ⟨lg, lo, none⟩) vals.length lc) ∧ Grown5I w (w5.setCell ⟨gb, k, none⟩ v') vals n (.slice (some ⟨gb, 0, none⟩) vals.length vals.length) (k + 1) := fun v' w5 hap => by
              have h := grown5I_step HF4.out HG4.out HA.out HLOW.out (fun b hb => by cases hb; exact hlg) hgb hlt HV.out hap HYL.out
              rw [Nat.zero_add] at h
              obtain ⟨a', c', e⟩ := hap.1.form
              obtain ⟨gv, h1, h2, _⟩ := h.2
              have hc5 : ∃ u, w5.cell? ⟨gb, k, none⟩ = some u ∧ w5.frozen? ⟨gb, k, none⟩ = false := by
                obtain ⟨gv4, h41, h42, _⟩ := HG4.out
                have hb45 : But (Value.slice a (n k) c).ownBlock.toList wr w5 := by
                  rcases hap.2 with ⟨_, _, _, _, _, hb⟩ | ⟨_, hb⟩
                  · exact hb
                  · exact hb.mono (by simp)
                have h43 := h42.but hb45 (fun b hb hm => by
                  cases hb
                  have := HLOW.out k _ gb HV.out (by simpa using hm)
                  omega)
                obtain ⟨u, hu⟩ : ∃ u, gv4[k]? = some u := ⟨_, List.getElem?_eq_getElem (by omega)⟩
                have h44 := h43.cellAt hu
                rw [Nat.zero_add] at h44
                exact ⟨u, h44, h43.frozenAt k⟩
              obtain ⟨u, hu, hfz⟩ := hc5
              exact ⟨a', c', by rw [e, List.length_append, marksI_len, HYL.out], ⟨u, hu⟩, hfz, h.1, h.2⟩
            have KEY := Lib.hid key
            have hbound : (marksI k (n k)).length + ys.length ≤ 1000000000064 := by rw [marksI_len, HYL.out]; omega
            clear hF4 key
            go_wp2_with (at_builtin; refine wpList_append_ins rfl _ _ 28 rfl i0 (.agg zA) 12 Tryz.underlying28 hi hz0 hz1 hz2 rfl _ (marksI k (n k)) rfl HQ.out ys _ rfl HSRC.out (by unfold maxLen; omega) (by omega) ?_; intro v' w5 hap; obtain ⟨a5, c5, rfl, ⟨u5, gc5⟩, gf5, hF5, hG5⟩ := KEY.out _ _ hap; have HF5 := Lib.hid hF5; have HG5 := Lib.hid hG5; clear hap hF5 hG5)
            go_roundw
            case rel => exact ⟨k + 1, by omega, by go_num, HF5.out, HG5.out⟩
            case measure => simp [intOf]; omega
      · obtain rfl : k = vals.length := by omega
        go_wp2_with fail
        go_meet
        exact ⟨HF.out, HG.out⟩
  case rest =>
    obtain ⟨hF, hG⟩ := hcut
    refine (by assumption : ∀ (a : Act) (w1 : World), Code.wp Tryz.prog _ _ a w1 → _) _ _ ?_
    exact gl6 HA HN hK HLOW hlg (Lib.hid hF) (Lib.hid hG)
noncomputable def code_r24t : Code := ((Tryz.f54.body.getD .skip |> regionOf5 24).getD .skip)
set_option maxRecDepth 100000 in
set_option maxHeartbeats 8000000 in
theorem reg24t (Q : Exit → Act → World → Prop) {wr : World} {vals : List Value} {n : Nat → Nat} {lg lo lc gb g gg c cg k j : Nat} (L3 : Hid (wr.cell? ⟨lg, lo + k, none⟩ = some (.slice (some ⟨g, 0, none⟩) (n k) c))) (G3' : Hid (wr.cell? ⟨gb, k, none⟩ = some (.slice (some ⟨gg, 0, none⟩) (n k + 64) cg))) (R1 : Hid (At5 wr g (j * 5) (mI k j))) (R2 : Hid (At5 wr gg (j * 5) (mI k j))) (hk1 : (k : Int) < vals.length) (hj1 : (j : Int) < n k) (hj2 : (j : Int) < (n k : Int) + 64) (d1 : decide (j < n k) = true) {u1 u2 u3 u4 u6 u7 u8 u11 u12 u13 u14 u15 u16 u17 u18 u19 u20 u21 u22 u23 u24 u25 u26 u27 u28 u29 u30 u31 u32 u33 u34 u35 u36 u37 u38 u39 u40 u41 u42 u43 u44 u45 u46 u47 u48 u49 u50 u51 u52 u53 u54 u55 u56 u57 u58 u59 u60 u61 u62 u63 u64 u65 u66 u67 u68 u69 u70 u71 u72 u77 u78 u86 u87 u88 u89 u90 u91 u92 u93 u94 u95 u96 u97 u98 u99 u100 u101 u102 u103 u104 u105 u106 u107 u108 u109 u110 u111 u112 u113 u114 u115 u116 u117 u118 u119 u120 u121 u122 u123 u124 u125 u126 u127 u128 u129 u130 u131 u132 u133 u134 u135 u136 u137 u138 u139 u140 u141 u142 u143 u144 u145 u146 u147 u148 u149 u150 u151 u152 u153 u154 u155 u156 u157 u158 u159 u160 u161 u162 u163 u164 u165 u166 u167 u168 u169 u170 u171 u172 u173 u174 u175 u176 u177 u178 u179 u180 u181 u182 u183 u184 u185 u186 u187 u188 u189 u190 u191 u192 : Value} (hQ : ∀ (z88 z89 z90 z91 z92 z93 z94 z95 z96 z97 z98 z99 z100 z101 z102 z103 z104 z105 z106 z107 z108 z109 z110 z111 z112 z113 z114 z115 z116 z117 z118 z119 z120 z121 : Value) (w5 : World), But [] wr w5 → Q .normal { tmps := List.toArray (Value.slice (some { block := lg, off := lo }) vals.length lc :: u1 :: u2 :: u3 :: u4 :: Value.slice (some { block := gb, off := 0 }) vals.length vals.length :: u6 :: u7 :: u8 :: Value.int IntKind.i64 ↑k :: Value.int IntKind.i64 ↑j :: u11 :: u12 :: u13 :: u14 :: u15 :: u16 :: u17 :: u18 :: u19 :: u20 :: u21 :: u22 :: u23 :: u24 :: u25 :: u26 :: u27 :: u28 :: u29 :: u30 :: u31 :: u32 :: u33 :: u34 :: u35 :: u36 :: u37 :: u38 :: u39 :: u40 :: u41 :: u42 :: u43 :: u44 :: u45 :: u46 :: u47 :: u48 :: u49 :: u50 :: u51 :: u52 :: u53 :: u54 :: u55 :: u56 :: u57 :: u58 :: u59 :: u60 :: u61 :: u62 :: u63 :: u64 :: u65 :: u66 :: u67 :: u68 :: u69 :: u70 :: u71 :: u72 :: Value.int IntKind.i64 ↑k :: Value.slice (some { block := lg, off := lo }) vals.length lc :: Value.int IntKind.i64 ↑vals.length :: Value.bool true :: u77 :: u78 :: Value.int IntKind.i64 ↑j :: Value.slice (some { block := gb, off := 0 }) vals.length vals.length :: Value.int IntKind.i64 ↑k :: Value.pointer (some { block := gb, off := k }) :: Value.slice (some { block := gg, off := 0 }) (n k + 64) cg :: Value.int IntKind.i64 (↑(n k) + 64) :: Value.bool true :: u86 :: u87 :: z88 :: z89 :: z90 :: z91 :: z92 :: z93 :: z94 :: z95 :: z96 :: z97 :: z98 :: z99 :: z100 :: z101 :: z102 :: z103 :: z104 :: z105 :: z106 :: z107 :: z108 :: z109 :: z110 :: z111 :: z112 :: z113 :: z114 :: z115 :: z116 :: z117 :: z118 :: z119 :: z120 :: z121 :: .bool false :: u123 :: u124 :: u125 :: u126 :: u127 :: u128 :: u129 :: u130 :: u131 :: u132 :: u133 :: u134 :: u135 :: u136 :: u137 :: u138 :: u139 :: u140 :: u141 :: u142 :: u143 :: u144 :: u145 :: u146 :: u147 :: u148 :: u149 :: u150 :: u151 :: u152 :: u153 :: u154 :: u155 :: u156 :: u157 :: u158 :: u159 :: u160 :: u161 :: u162 :: u163 :: u164 :: u165 :: u166 :: u167 :: u168 :: u169 :: u170 :: u171 :: u172 :: u173 :: u174 :: u175 :: u176 :: u177 :: u178 :: u179 :: u180 :: u181 :: u182 :: u183 :: u184 :: u185 :: u186 :: u187 :: u188 :: u189 :: u190 :: u191 :: u192 :: []), defers := [] } (w5)) :
    Code.wp Tryz.prog code_r24t Q { tmps := List.toArray (Value.slice (some { block := lg, off := lo }) vals.length lc :: u1 :: u2 :: u3 :: u4 :: Value.slice (some { block := gb, off := 0 }) vals.length vals.length :: u6 :: u7 :: u8 :: Value.int IntKind.i64 ↑k :: Value.int IntKind.i64 ↑j :: u11 :: u12 :: u13 :: u14 :: u15 :: u16 :: u17 :: u18 :: u19 :: u20 :: u21 :: u22 :: u23 :: u24 :: u25 :: u26 :: u27 :: u28 :: u29 :: u30 :: u31 :: u32 :: u33 :: u34 :: u35 :: u36 :: u37 :: u38 :: u39 :: u40 :: u41 :: u42 :: u43 :: u44 :: u45 :: u46 :: u47 :: u48 :: u49 :: u50 :: u51 :: u52 :: u53 :: u54 :: u55 :: u56 :: u57 :: u58 :: u59 :: u60 :: u61 :: u62 :: u63 :: u64 :: u65 :: u66 :: u67 :: u68 :: u69 :: u70 :: u71 :: u72 :: Value.int IntKind.i64 ↑k :: Value.slice (some { block := lg, off := lo }) vals.length lc :: Value.int IntKind.i64 ↑vals.length :: Value.bool true :: u77 :: u78 :: Value.int IntKind.i64 ↑j :: Value.slice (some { block := gb, off := 0 }) vals.length vals.length :: Value.int IntKind.i64 ↑k :: Value.pointer (some { block := gb, off := k }) :: Value.slice (some { block := gg, off := 0 }) (n k + 64) cg :: Value.int IntKind.i64 (↑(n k) + 64) :: Value.bool true :: u86 :: u87 :: u88 :: u89 :: u90 :: u91 :: u92 :: u93 :: u94 :: u95 :: u96 :: u97 :: u98 :: u99 :: u100 :: u101 :: u102 :: u103 :: u104 :: u105 :: u106 :: u107 :: u108 :: u109 :: u110 :: u111 :: u112 :: u113 :: u114 :: u115 :: u116 :: u117 :: u118 :: u119 :: u120 :: u121 :: u122 :: u123 :: u124 :: u125 :: u126 :: u127 :: u128 :: u129 :: u130 :: u131 :: u132 :: u133 :: u134 :: u135 :: u136 :: u137 :: u138 :: u139 :: u140 :: u141 :: u142 :: u143 :: u144 :: u145 :: u146 :: u147 :: u148 :: u149 :: u150 :: u151 :: u152 :: u153 :: u154 :: u155 :: u156 :: u157 :: u158 :: u159 :: u160 :: u161 :: u162 :: u163 :: u164 :: u165 :: u166 :: u167 :: u168 :: u169 :: u170 :: u171 :: u172 :: u173 :: u174 :: u175 :: u176 :: u177 :: u178 :: u179 :: u180 :: u181 :: u182 :: u183 :: u184 :: u185 :: u186 :: u187 :: u188 :: u189 :: u190 :: u191 :: u192 :: []), defers := [] } wr := by
  have HQ := Lib.hid hQ
  clear hQ
  obtain ⟨z, hz⟩ : ∃ z : Int, z = wI k j := ⟨_, rfl⟩
  have HZ := Lib.hid hz
  clear hz
  conv => arg 2; whnf
  refine wp_region_flowS 34 (by decide) (by kernel_rfl) (But []) (fun _ _ _ h1 h2 => h1.trans h2 (by simp)) (⟨rfl, rfl, rfl, Nat.le_refl _, fun _ _ _ => rfl⟩) (GV [.slice (some ⟨gb, 0, none⟩) vals.length vals.length, .int .i64 (k : Int), .pointer (some ⟨gb, k, none⟩), .slice (some ⟨gg, 0, none⟩) (n k + 64) cg, .int .i64 (j : Int), .pointer (some ⟨gg, j * 5, none⟩), .agg #[.int .u8 0, .int .u8 0, .int .u8 0, .int .i16 0, .int .i32 z], .int .i64 (k : Int), .int .i64 (j : Int), .agg #[.int .u8 0, .int .u8 0, .int .u8 0, .int .i16 0, .int .i32 z], .bool true, .bool false, .bool false, .int .i64 (j : Int), .slice (some ⟨lg, lo, none⟩) vals.length lc, .int .i64 (k : Int), .pointer (some ⟨lg, lo + k, none⟩), .slice (some ⟨g, 0, none⟩) (n k) c, .int .i64 (n k : Int), .bool true, .bool true, .slice (some ⟨lg, lo, none⟩) vals.length lc, .int .i64 (k : Int), .pointer (some ⟨lg, lo + k, none⟩), .slice (some ⟨g, 0, none⟩) (n k) c, .int .i64 (j : Int), .pointer (some ⟨g, j * 5, none⟩), .agg #[.int .u8 0, .int .u8 0, .int .u8 0, .int .i16 0, .int .i32 z], .int .i64 (k : Int), .int .i64 (j : Int), .agg #[.int .u8 0, .int .u8 0, .int .u8 0, .int .i16 0, .int .i32 z], .bool true, .bool false, .bool false]) [[], [], [(0, 88), (1, 89)], [(2, 90)], [], [(3, 91), (4, 92)], [(5, 93)], [], [], [(7, 95), (8, 96)], [(6, 94), (9, 97)], [(10, 98)], [(11, 99)], [(12, 100)], [(12, 100)], [(12, 100)], [(12, 100), (14, 102), (15, 103)], [(12, 100), (16, 104)], [(12, 100), (17, 105)], [(12, 100), (13, 101), (18, 106)], [(12, 100), (19, 107)], [(20, 108)], [(20, 108)], [(20, 108), (21, 109), (22, 110)], [(20, 108), (23, 111)], [(20, 108)], [(20, 108), (24, 112), (25, 113)], [(20, 108), (26, 114)], [(20, 108)], [(20, 108)], [(20, 108), (28, 116), (29, 117)], [(20, 108), (27, 115), (30, 118)], [(20, 108), (31, 119)], [(12, 100), (20, 108), (32, 120)]] [[(5, .slice (some ⟨gb, 0, none⟩) vals.length vals.length)], [(9, .int .i64 (k : Int))], [], [], [(10, .int .i64 (j : Int))], [], [], [(9, .int .i64 (k : Int))], [(10, .int .i64 (j : Int))], [], [], [], [], [(10, .int .i64 (j : Int))], [(0, .slice (some ⟨lg, lo, none⟩) vals.length lc)], [(9, .int .i64 (k : Int))], [], [], [], [], [], [(0, .slice (some ⟨lg, lo, none⟩) vals.length lc)], [(9, .int .i64 (k : Int))], [], [], [(10, .int .i64 (j : Int))], [], [], [(9, .int .i64 (k : Int))], [(10, .int .i64 (j : Int))], [], [], [], []] (by kernel_rfl) (by kernel_rfl) (by kernel_rfl) (by kernel_rfl) ?_ (fun _ _ _ _ _ h _ => h) [none, none, none, none, none, none, none, none, none, none, none, none, none, none, none, none, none, none, none, none, none, none, none, none, none, none, none, none, none, none, none, none, none, none, none, none, none, none, none, none, none, none, none, none, none, none, none, none, none, none, none, none, none, none, none, none, none, none, none, none, none, none, none, none, none, none, none, none, none, none, none, none, none, none, none, none, none, none, none, none, none, none, none, none, none, none, none, none, some 88, some 89, some 90, some 91, some 92, some 93, some 94, some 95, some 96, some 97, some 98, some 99, some 100, some 101, some 102, some 103, some 104, some 105, some 106, some 107, some 108, some 109, some 110, some 111, some 112, some 113, some 114, some 115, some 116, some 117, some 118, some 119, some 120, some 121, none, none, none, none, none, none, none, none, none, none, none, none, none, none, none, none, none, none, none, none, none, none, none, none, none, none, none, none, none, none, none, none, none, none, none, none, none, none, none, none, none, none, none, none, none, none, none, none, none, none, none, none, none, none, none, none, none, none, none, none, none, none, none, none, none, none, none, none, none, none, none] (by kernel_rfl) (by rfl) ?_ ?_
  · exact ⟨⟨rfl, trivial⟩, ⟨rfl, trivial⟩, trivial, trivial, ⟨rfl, trivial⟩, trivial, trivial, ⟨rfl, trivial⟩, ⟨rfl, trivial⟩, trivial, trivial, trivial, trivial, ⟨rfl, trivial⟩, ⟨rfl, trivial⟩, ⟨rfl, trivial⟩, trivial, trivial, trivial, trivial, trivial, ⟨rfl, trivial⟩, ⟨rfl, trivial⟩, trivial, trivial, ⟨rfl, trivial⟩, trivial, trivial, ⟨rfl, trivial⟩, ⟨rfl, trivial⟩, trivial, trivial, trivial, trivial, trivial⟩
  · simp only [List.take_succ_cons, List.take_zero]
    -- 88
    refine ⟨fun a9 w9 hR hk hf => ?_, ?_⟩
    · simp only [KnowF, FreeF, and_true] at hk hf
      have e5 : a9.tmps[5]?.getD undef = .slice (some ⟨gb, 0, none⟩) vals.length vals.length := freeF_ev hf
      exact flow_on (rfl) (flow_run (v := .slice (some ⟨gb, 0, none⟩) vals.length vals.length) (by go_simp) (But.refl _ _) (GV.of rfl))
    -- 89
    refine ⟨fun a9 w9 hR hk hf => ?_, ?_⟩
    · simp only [KnowF, FreeF, and_true] at hk hf
      have e9 : a9.tmps[9]?.getD undef = .int .i64 (k : Int) := freeF_ev hf
      exact flow_on (rfl) (flow_run (v := .int .i64 (k : Int)) (by go_simp) (But.refl _ _) (GV.of rfl))
    -- 90
    refine ⟨fun a9 w9 hR hk hf => ?_, ?_⟩
    · simp only [KnowF, FreeF, and_true] at hk hf
      have e88 := (hk.1).ev (v := .slice (some ⟨gb, 0, none⟩) vals.length vals.length) rfl
      have e89 := (hk.2).ev (v := .int .i64 (k : Int)) rfl
      exact flow_on (rfl) (flow_run (v := .pointer (some ⟨gb, k, none⟩)) (by go_simp) (But.refl _ _) (GV.of rfl))
    -- 91
    refine ⟨fun a9 w9 hR hk hf => ?_, ?_⟩
    · simp only [KnowF, FreeF, and_true] at hk hf
      have e90 := (hk).ev (v := .pointer (some ⟨gb, k, none⟩)) rfl
      have f0 := cell_but hR G3'.out (by simp)
      exact flow_on (rfl) (flow_run (v := .slice (some ⟨gg, 0, none⟩) (n k + 64) cg) (by go_simp) (But.refl _ _) (GV.of rfl))
    -- 92
    refine ⟨fun a9 w9 hR hk hf => ?_, ?_⟩
    · simp only [KnowF, FreeF, and_true] at hk hf
      have e10 : a9.tmps[10]?.getD undef = .int .i64 (j : Int) := freeF_ev hf
      exact flow_on (rfl) (flow_run (v := .int .i64 (j : Int)) (by go_simp) (But.refl _ _) (GV.of rfl))
    -- 93
    refine ⟨fun a9 w9 hR hk hf => ?_, ?_⟩
    · simp only [KnowF, FreeF, and_true] at hk hf
      have e91 := (hk.1).ev (v := .slice (some ⟨gg, 0, none⟩) (n k + 64) cg) rfl
      have e92 := (hk.2).ev (v := .int .i64 (j : Int)) rfl
      exact flow_on (rfl) (flow_run (v := .pointer (some ⟨gg, j * 5, none⟩)) (by go_simp) (But.refl _ _) (GV.of rfl))
    -- 94
    refine ⟨fun a9 w9 hR hk hf => ?_, ?_⟩
    · simp only [KnowF, FreeF, and_true] at hk hf
      have e93 := (hk).ev (v := .pointer (some ⟨gg, j * 5, none⟩)) rfl
      have hh := R2.out.but hR
      have f0 := hh.1
      have f1 := hh.2.1
      have f2 := hh.2.2.1
      have f3 := hh.2.2.2.1
      have f4 := hh.2.2.2.2
      simp only [mI] at f0 f1 f2 f3 f4
      rw [← HZ.out] at f4
      clear hh
      exact flow_on (rfl) (flow_run (v := .agg #[.int .u8 0, .int .u8 0, .int .u8 0, .int .i16 0, .int .i32 z]) (by go_simp) (But.refl _ _) (GV.of rfl))
    -- 95
    refine ⟨fun a9 w9 hR hk hf => ?_, ?_⟩
    · simp only [KnowF, FreeF, and_true] at hk hf
      have e9 : a9.tmps[9]?.getD undef = .int .i64 (k : Int) := freeF_ev hf
      exact flow_on (rfl) (flow_run (v := .int .i64 (k : Int)) (by go_simp) (But.refl _ _) (GV.of rfl))
    -- 96
    refine ⟨fun a9 w9 hR hk hf => ?_, ?_⟩
    · simp only [KnowF, FreeF, and_true] at hk hf
      have e10 : a9.tmps[10]?.getD undef = .int .i64 (j : Int) := freeF_ev hf
      exact flow_on (rfl) (flow_run (v := .int .i64 (j : Int)) (by go_simp) (But.refl _ _) (GV.of rfl))
    -- 97
    refine ⟨fun a9 w9 hR hk hf => ?_, ?_⟩
    · simp only [KnowF, FreeF, and_true] at hk hf
      have e95 := (hk.1).ev (v := .int .i64 (k : Int)) rfl
      have e96 := (hk.2).ev (v := .int .i64 (j : Int)) rfl
      exact flow_on (rfl) (flow_call (f := 31) (args := #[.int .i64 (k : Int), .int .i64 (j : Int)]) (by go_simp) ((markInstr _ _ _).mono (by rintro e w' ⟨rfl, hb⟩; exact ⟨_, rfl, hb, GV.of (by rw [← HZ.out]; rfl)⟩)))
    -- 98
    refine ⟨fun a9 w9 hR hk hf => ?_, ?_⟩
    · simp only [KnowF, FreeF, and_true] at hk hf
      have e94 := (hk.1).ev (v := .agg #[.int .u8 0, .int .u8 0, .int .u8 0, .int .i16 0, .int .i32 z]) rfl
      have e97 := (hk.2).ev (v := .agg #[.int .u8 0, .int .u8 0, .int .u8 0, .int .i16 0, .int .i32 z]) rfl
      exact flow_on (rfl) (flow_run (v := .bool true) (by go_simp) (But.refl _ _) (GV.of rfl))
    -- 99
    refine ⟨fun a9 w9 hR hk hf => ?_, ?_⟩
    · simp only [KnowF, FreeF, and_true] at hk hf
      have e98 := (hk).ev (v := .bool true) rfl
      exact flow_on (rfl) (flow_run (v := .bool false) (by go_simp) (But.refl _ _) (GV.of rfl))
    -- 100
    refine ⟨fun a9 w9 hR hk hf => ?_, ?_⟩
    · simp only [KnowF, FreeF, and_true] at hk hf
      have e99 := (hk).ev (v := .bool false) rfl
      exact flow_on (rfl) (flow_run (v := .bool false) (by go_simp) (But.refl _ _) (GV.of rfl))
    -- 101
    refine ⟨fun a9 w9 hR hk hf => ?_, ?_⟩
    · simp only [KnowF, FreeF, and_true] at hk hf
      have hgd := (hk).eval (v := .bool false) rfl
      have e10 : a9.tmps[10]?.getD undef = .int .i64 (j : Int) := freeF_ev hf
      exact flow_on (wanted_at (j := 12) (b := false) (s := 100) rfl rfl hgd) (flow_run (v := .int .i64 (j : Int)) (by go_simp) (But.refl _ _) (GV.of rfl))
    -- 102
    refine ⟨fun a9 w9 hR hk hf => ?_, ?_⟩
    · simp only [KnowF, FreeF, and_true] at hk hf
      have hgd := (hk).eval (v := .bool false) rfl
      have e0 : a9.tmps[0]?.getD undef = .slice (some ⟨lg, lo, none⟩) vals.length lc := freeF_ev hf
      exact flow_on (wanted_at (j := 12) (b := false) (s := 100) rfl rfl hgd) (flow_run (v := .slice (some ⟨lg, lo, none⟩) vals.length lc) (by go_simp) (But.refl _ _) (GV.of rfl))
    -- 103
    refine ⟨fun a9 w9 hR hk hf => ?_, ?_⟩
    · simp only [KnowF, FreeF, and_true] at hk hf
      have hgd := (hk).eval (v := .bool false) rfl
      have e9 : a9.tmps[9]?.getD undef = .int .i64 (k : Int) := freeF_ev hf
      exact flow_on (wanted_at (j := 12) (b := false) (s := 100) rfl rfl hgd) (flow_run (v := .int .i64 (k : Int)) (by go_simp) (But.refl _ _) (GV.of rfl))
    -- 104
    refine ⟨fun a9 w9 hR hk hf => ?_, ?_⟩
    · simp only [KnowF, FreeF, and_true] at hk hf
      have hgd := (hk.1).eval (v := .bool false) rfl
      have e102 := (hk.2.1).ev (v := .slice (some ⟨lg, lo, none⟩) vals.length lc) rfl
      have e103 := (hk.2.2).ev (v := .int .i64 (k : Int)) rfl
      exact flow_on (wanted_at (j := 12) (b := false) (s := 100) rfl rfl hgd) (flow_run (v := .pointer (some ⟨lg, lo + k, none⟩)) (by go_simp) (But.refl _ _) (GV.of rfl))
    -- 105
    refine ⟨fun a9 w9 hR hk hf => ?_, ?_⟩
    · simp only [KnowF, FreeF, and_true] at hk hf
      have hgd := (hk.1).eval (v := .bool false) rfl
      have e104 := (hk.2).ev (v := .pointer (some ⟨lg, lo + k, none⟩)) rfl
      have f0 := cell_but hR L3.out (by simp)
      exact flow_on (wanted_at (j := 12) (b := false) (s := 100) rfl rfl hgd) (flow_run (v := .slice (some ⟨g, 0, none⟩) (n k) c) (by go_simp) (But.refl _ _) (GV.of rfl))
    -- 106
    refine ⟨fun a9 w9 hR hk hf => ?_, ?_⟩
    · simp only [KnowF, FreeF, and_true] at hk hf
      have hgd := (hk.1).eval (v := .bool false) rfl
      have e105 := (hk.2).ev (v := .slice (some ⟨g, 0, none⟩) (n k) c) rfl
      exact flow_on (wanted_at (j := 12) (b := false) (s := 100) rfl rfl hgd) (flow_run (v := .int .i64 (n k : Int)) (by go_simp) (But.refl _ _) (GV.of rfl))
    -- 107
    refine ⟨fun a9 w9 hR hk hf => ?_, ?_⟩
    · simp only [KnowF, FreeF, and_true] at hk hf
      have hgd := (hk.1).eval (v := .bool false) rfl
      have e101 := (hk.2.1).ev (v := .int .i64 (j : Int)) rfl
      have e106 := (hk.2.2).ev (v := .int .i64 (n k : Int)) rfl
      exact flow_on (wanted_at (j := 12) (b := false) (s := 100) rfl rfl hgd) (flow_run (v := .bool true) (by go_simp) (But.refl _ _) (GV.of rfl))
    -- 108
    refine ⟨fun a9 w9 hR hk hf => ?_, ?_⟩
    · simp only [KnowF, FreeF, and_true] at hk hf
      have hgd := (hk.1).eval (v := .bool false) rfl
      have e107 := (hk.2).ev (v := .bool true) rfl
      exact flow_on (wanted_at (j := 12) (b := false) (s := 100) rfl rfl hgd) (flow_run (v := .bool true) (by go_simp) (But.refl _ _) (GV.of rfl))
    -- 109
    refine ⟨fun a9 w9 hR hk hf => ?_, ?_⟩
    · simp only [KnowF, FreeF, and_true] at hk hf
      have hgd := (hk).eval (v := .bool true) rfl
      have e0 : a9.tmps[0]?.getD undef = .slice (some ⟨lg, lo, none⟩) vals.length lc := freeF_ev hf
      exact flow_on (wanted_at (j := 20) (b := true) (s := 108) rfl rfl hgd) (flow_run (v := .slice (some ⟨lg, lo, none⟩) vals.length lc) (by go_simp) (But.refl _ _) (GV.of rfl))
    -- 110
    refine ⟨fun a9 w9 hR hk hf => ?_, ?_⟩
    · simp only [KnowF, FreeF, and_true] at hk hf
      have hgd := (hk).eval (v := .bool true) rfl
      have e9 : a9.tmps[9]?.getD undef = .int .i64 (k : Int) := freeF_ev hf
      exact flow_on (wanted_at (j := 20) (b := true) (s := 108) rfl rfl hgd) (flow_run (v := .int .i64 (k : Int)) (by go_simp) (But.refl _ _) (GV.of rfl))
    -- 111
    refine ⟨fun a9 w9 hR hk hf => ?_, ?_⟩
    · simp only [KnowF, FreeF, and_true] at hk hf
      have hgd := (hk.1).eval (v := .bool true) rfl
      have e109 := (hk.2.1).ev (v := .slice (some ⟨lg, lo, none⟩) vals.length lc) rfl
      have e110 := (hk.2.2).ev (v := .int .i64 (k : Int)) rfl
      exact flow_on (wanted_at (j := 20) (b := true) (s := 108) rfl rfl hgd) (flow_run (v := .pointer (some ⟨lg, lo + k, none⟩)) (by go_simp) (But.refl _ _) (GV.of rfl))
    -- 112
    refine ⟨fun a9 w9 hR hk hf => ?_, ?_⟩
    · simp only [KnowF, FreeF, and_true] at hk hf
      have hgd := (hk.1).eval (v := .bool true) rfl
      have e111 := (hk.2).ev (v := .pointer (some ⟨lg, lo + k, none⟩)) rfl
      have f0 := cell_but hR L3.out (by simp)
      exact flow_on (wanted_at (j := 20) (b := true) (s := 108) rfl rfl hgd) (flow_run (v := .slice (some ⟨g, 0, none⟩) (n k) c) (by go_simp) (But.refl _ _) (GV.of rfl))
    -- 113
    refine ⟨fun a9 w9 hR hk hf => ?_, ?_⟩
    · simp only [KnowF, FreeF, and_true] at hk hf
      have hgd := (hk).eval (v := .bool true) rfl
      have e10 : a9.tmps[10]?.getD undef = .int .i64 (j : Int) := freeF_ev hf
      exact flow_on (wanted_at (j := 20) (b := true) (s := 108) rfl rfl hgd) (flow_run (v := .int .i64 (j : Int)) (by go_simp) (But.refl _ _) (GV.of rfl))
    -- 114
    refine ⟨fun a9 w9 hR hk hf => ?_, ?_⟩
    · simp only [KnowF, FreeF, and_true] at hk hf
      have hgd := (hk.1).eval (v := .bool true) rfl
      have e112 := (hk.2.1).ev (v := .slice (some ⟨g, 0, none⟩) (n k) c) rfl
      have e113 := (hk.2.2).ev (v := .int .i64 (j : Int)) rfl
      exact flow_on (wanted_at (j := 20) (b := true) (s := 108) rfl rfl hgd) (flow_run (v := .pointer (some ⟨g, j * 5, none⟩)) (by go_simp) (But.refl _ _) (GV.of rfl))
    -- 115
    refine ⟨fun a9 w9 hR hk hf => ?_, ?_⟩
    · simp only [KnowF, FreeF, and_true] at hk hf
      have hgd := (hk.1).eval (v := .bool true) rfl
      have e114 := (hk.2).ev (v := .pointer (some ⟨g, j * 5, none⟩)) rfl
      have hh := R1.out.but hR
      have f0 := hh.1
      have f1 := hh.2.1
      have f2 := hh.2.2.1
      have f3 := hh.2.2.2.1
      have f4 := hh.2.2.2.2
      simp only [mI] at f0 f1 f2 f3 f4
      rw [← HZ.out] at f4
      clear hh
      exact flow_on (wanted_at (j := 20) (b := true) (s := 108) rfl rfl hgd) (flow_run (v := .agg #[.int .u8 0, .int .u8 0, .int .u8 0, .int .i16 0, .int .i32 z]) (by go_simp) (But.refl _ _) (GV.of rfl))
    -- 116
    refine ⟨fun a9 w9 hR hk hf => ?_, ?_⟩
    · simp only [KnowF, FreeF, and_true] at hk hf
      have hgd := (hk).eval (v := .bool true) rfl
      have e9 : a9.tmps[9]?.getD undef = .int .i64 (k : Int) := freeF_ev hf
      exact flow_on (wanted_at (j := 20) (b := true) (s := 108) rfl rfl hgd) (flow_run (v := .int .i64 (k : Int)) (by go_simp) (But.refl _ _) (GV.of rfl))
    -- 117
    refine ⟨fun a9 w9 hR hk hf => ?_, ?_⟩
    · simp only [KnowF, FreeF, and_true] at hk hf
      have hgd := (hk).eval (v := .bool true) rfl
      have e10 : a9.tmps[10]?.getD undef = .int .i64 (j : Int) := freeF_ev hf
      exact flow_on (wanted_at (j := 20) (b := true) (s := 108) rfl rfl hgd) (flow_run (v := .int .i64 (j : Int)) (by go_simp) (But.refl _ _) (GV.of rfl))
    -- 118
    refine ⟨fun a9 w9 hR hk hf => ?_, ?_⟩
    · simp only [KnowF, FreeF, and_true] at hk hf
      have hgd := (hk.1).eval (v := .bool true) rfl
      have e116 := (hk.2.1).ev (v := .int .i64 (k : Int)) rfl
      have e117 := (hk.2.2).ev (v := .int .i64 (j : Int)) rfl
      exact flow_on (wanted_at (j := 20) (b := true) (s := 108) rfl rfl hgd) (flow_call (f := 31) (args := #[.int .i64 (k : Int), .int .i64 (j : Int)]) (by go_simp) ((markInstr _ _ _).mono (by rintro e w' ⟨rfl, hb⟩; exact ⟨_, rfl, hb, GV.of (by rw [← HZ.out]; rfl)⟩)))
    -- 119
    refine ⟨fun a9 w9 hR hk hf => ?_, ?_⟩
    · simp only [KnowF, FreeF, and_true] at hk hf
      have hgd := (hk.1).eval (v := .bool true) rfl
      have e115 := (hk.2.1).ev (v := .agg #[.int .u8 0, .int .u8 0, .int .u8 0, .int .i16 0, .int .i32 z]) rfl
      have e118 := (hk.2.2).ev (v := .agg #[.int .u8 0, .int .u8 0, .int .u8 0, .int .i16 0, .int .i32 z]) rfl
      exact flow_on (wanted_at (j := 20) (b := true) (s := 108) rfl rfl hgd) (flow_run (v := .bool true) (by go_simp) (But.refl _ _) (GV.of rfl))
    -- 120
    refine ⟨fun a9 w9 hR hk hf => ?_, ?_⟩
    · simp only [KnowF, FreeF, and_true] at hk hf
      have hgd := (hk.1).eval (v := .bool true) rfl
      have e119 := (hk.2).ev (v := .bool true) rfl
      exact flow_on (wanted_at (j := 20) (b := true) (s := 108) rfl rfl hgd) (flow_run (v := .bool false) (by go_simp) (But.refl _ _) (GV.of rfl))
    -- 121
    refine ⟨fun a9 w9 hR hk hf => ?_, ?_⟩
    · simp only [KnowF, FreeF, and_true] at hk hf
      have hgd := (hk.1).eval (v := .bool false) rfl
      have e108 := (hk.2.1).ev (v := .bool true) rfl
      have e120 := (hk.2.2).ev (v := .bool false) rfl
      exact flow_on (wanted_at (j := 12) (b := false) (s := 100) rfl rfl hgd) (flow_run (v := .bool false) (by go_simp) (But.refl _ _) (GV.of rfl))
    exact trivial
  · intro f w5 hb5 hG
    have e100 : f 100 = .bool false := hG 12 _ 100 (by decide) rfl rfl _ rfl
    have e121 : f 121 = .bool false := hG 33 _ 121 (by decide) rfl rfl _ rfl
    have HB5 := Lib.hid hb5
    clear hG hb5
    simp only [List.drop_succ_cons, List.drop_zero]
    show wpList _ _ _ _ { tmps := List.toArray (Value.slice (some { block := lg, off := lo }) vals.length lc :: u1 :: u2 :: u3 :: u4 :: Value.slice (some { block := gb, off := 0 }) vals.length vals.length :: u6 :: u7 :: u8 :: Value.int IntKind.i64 ↑k :: Value.int IntKind.i64 ↑j :: u11 :: u12 :: u13 :: u14 :: u15 :: u16 :: u17 :: u18 :: u19 :: u20 :: u21 :: u22 :: u23 :: u24 :: u25 :: u26 :: u27 :: u28 :: u29 :: u30 :: u31 :: u32 :: u33 :: u34 :: u35 :: u36 :: u37 :: u38 :: u39 :: u40 :: u41 :: u42 :: u43 :: u44 :: u45 :: u46 :: u47 :: u48 :: u49 :: u50 :: u51 :: u52 :: u53 :: u54 :: u55 :: u56 :: u57 :: u58 :: u59 :: u60 :: u61 :: u62 :: u63 :: u64 :: u65 :: u66 :: u67 :: u68 :: u69 :: u70 :: u71 :: u72 :: Value.int IntKind.i64 ↑k :: Value.slice (some { block := lg, off := lo }) vals.length lc :: Value.int IntKind.i64 ↑vals.length :: Value.bool true :: u77 :: u78 :: Value.int IntKind.i64 ↑j :: Value.slice (some { block := gb, off := 0 }) vals.length vals.length :: Value.int IntKind.i64 ↑k :: Value.pointer (some { block := gb, off := k }) :: Value.slice (some { block := gg, off := 0 }) (n k + 64) cg :: Value.int IntKind.i64 (↑(n k) + 64) :: Value.bool true :: u86 :: u87 :: f 88 :: f 89 :: f 90 :: f 91 :: f 92 :: f 93 :: f 94 :: f 95 :: f 96 :: f 97 :: f 98 :: f 99 :: f 100 :: f 101 :: f 102 :: f 103 :: f 104 :: f 105 :: f 106 :: f 107 :: f 108 :: f 109 :: f 110 :: f 111 :: f 112 :: f 113 :: f 114 :: f 115 :: f 116 :: f 117 :: f 118 :: f 119 :: f 120 :: f 121 :: u122 :: u123 :: u124 :: u125 :: u126 :: u127 :: u128 :: u129 :: u130 :: u131 :: u132 :: u133 :: u134 :: u135 :: u136 :: u137 :: u138 :: u139 :: u140 :: u141 :: u142 :: u143 :: u144 :: u145 :: u146 :: u147 :: u148 :: u149 :: u150 :: u151 :: u152 :: u153 :: u154 :: u155 :: u156 :: u157 :: u158 :: u159 :: u160 :: u161 :: u162 :: u163 :: u164 :: u165 :: u166 :: u167 :: u168 :: u169 :: u170 :: u171 :: u172 :: u173 :: u174 :: u175 :: u176 :: u177 :: u178 :: u179 :: u180 :: u181 :: u182 :: u183 :: u184 :: u185 :: u186 :: u187 :: u188 :: u189 :: u190 :: u191 :: u192 :: []), defers := [] } w5
    go_wp2_with fail
    exact HQ.out _ _ _ _ _ _ _ _ _ _ _ _ _ _ _ _ _ _ _ _ _ _ _ _ _ _ _ _ _ _ _ _ _ _ _ HB5.out
noncomputable def code_r24f : Code := ((Tryz.f54.body.getD .skip |> regionOf5 24).getD .skip)
set_option maxRecDepth 100000 in
set_option maxHeartbeats 8000000 in
theorem reg24f (Q : Exit → Act → World → Prop) {wr : World} {vals : List Value} {n : Nat → Nat} {ra : Option Addr} {lg lo lc gb gg c cg k j : Nat} (L3 : Hid (wr.cell? ⟨lg, lo + k, none⟩ = some (.slice ra (n k) c))) (G3' : Hid (wr.cell? ⟨gb, k, none⟩ = some (.slice (some ⟨gg, 0, none⟩) (n k + 64) cg))) (R2 : Hid (At5 wr gg (j * 5) (mI k j))) (hk1 : (k : Int) < vals.length) (hj2 : (j : Int) < (n k : Int) + 64) (d1 : decide (j < n k) = false) {u1 u2 u3 u4 u6 u7 u8 u11 u12 u13 u14 u15 u16 u17 u18 u19 u20 u21 u22 u23 u24 u25 u26 u27 u28 u29 u30 u31 u32 u33 u34 u35 u36 u37 u38 u39 u40 u41 u42 u43 u44 u45 u46 u47 u48 u49 u50 u51 u52 u53 u54 u55 u56 u57 u58 u59 u60 u61 u62 u63 u64 u65 u66 u67 u68 u69 u70 u71 u72 u77 u78 u86 u87 u88 u89 u90 u91 u92 u93 u94 u95 u96 u97 u98 u99 u100 u101 u102 u103 u104 u105 u106 u107 u108 u109 u110 u111 u112 u113 u114 u115 u116 u117 u118 u119 u120 u121 u122 u123 u124 u125 u126 u127 u128 u129 u130 u131 u132 u133 u134 u135 u136 u137 u138 u139 u140 u141 u142 u143 u144 u145 u146 u147 u148 u149 u150 u151 u152 u153 u154 u155 u156 u157 u158 u159 u160 u161 u162 u163 u164 u165 u166 u167 u168 u169 u170 u171 u172 u173 u174 u175 u176 u177 u178 u179 u180 u181 u182 u183 u184 u185 u186 u187 u188 u189 u190 u191 u192 : Value} (hQ : ∀ (z88 z89 z90 z91 z92 z93 z94 z95 z96 z97 z98 z99 z100 z101 z102 z103 z104 z105 z106 z107 z108 z109 z110 z111 z112 z113 z114 z115 z116 z117 z118 z119 z120 z121 : Value) (w5 : World), But [] wr w5 → Q .normal { tmps := List.toArray (Value.slice (some { block := lg, off := lo }) vals.length lc :: u1 :: u2 :: u3 :: u4 :: Value.slice (some { block := gb, off := 0 }) vals.length vals.length :: u6 :: u7 :: u8 :: Value.int IntKind.i64 ↑k :: Value.int IntKind.i64 ↑j :: u11 :: u12 :: u13 :: u14 :: u15 :: u16 :: u17 :: u18 :: u19 :: u20 :: u21 :: u22 :: u23 :: u24 :: u25 :: u26 :: u27 :: u28 :: u29 :: u30 :: u31 :: u32 :: u33 :: u34 :: u35 :: u36 :: u37 :: u38 :: u39 :: u40 :: u41 :: u42 :: u43 :: u44 :: u45 :: u46 :: u47 :: u48 :: u49 :: u50 :: u51 :: u52 :: u53 :: u54 :: u55 :: u56 :: u57 :: u58 :: u59 :: u60 :: u61 :: u62 :: u63 :: u64 :: u65 :: u66 :: u67 :: u68 :: u69 :: u70 :: u71 :: u72 :: Value.int IntKind.i64 ↑k :: Value.slice (some { block := lg, off := lo }) vals.length lc :: Value.int IntKind.i64 ↑vals.length :: Value.bool true :: u77 :: u78 :: Value.int IntKind.i64 ↑j :: Value.slice (some { block := gb, off := 0 }) vals.length vals.length :: Value.int IntKind.i64 ↑k :: Value.pointer (some { block := gb, off := k }) :: Value.slice (some { block := gg, off := 0 }) (n k + 64) cg :: Value.int IntKind.i64 (↑(n k) + 64) :: Value.bool true :: u86 :: u87 :: z88 :: z89 :: z90 :: z91 :: z92 :: z93 :: z94 :: z95 :: z96 :: z97 :: z98 :: z99 :: z100 :: z101 :: z102 :: z103 :: z104 :: z105 :: z106 :: z107 :: z108 :: z109 :: z110 :: z111 :: z112 :: z113 :: z114 :: z115 :: z116 :: z117 :: z118 :: z119 :: z120 :: z121 :: .bool false :: u123 :: u124 :: u125 :: u126 :: u127 :: u128 :: u129 :: u130 :: u131 :: u132 :: u133 :: u134 :: u135 :: u136 :: u137 :: u138 :: u139 :: u140 :: u141 :: u142 :: u143 :: u144 :: u145 :: u146 :: u147 :: u148 :: u149 :: u150 :: u151 :: u152 :: u153 :: u154 :: u155 :: u156 :: u157 :: u158 :: u159 :: u160 :: u161 :: u162 :: u163 :: u164 :: u165 :: u166 :: u167 :: u168 :: u169 :: u170 :: u171 :: u172 :: u173 :: u174 :: u175 :: u176 :: u177 :: u178 :: u179 :: u180 :: u181 :: u182 :: u183 :: u184 :: u185 :: u186 :: u187 :: u188 :: u189 :: u190 :: u191 :: u192 :: []), defers := [] } (w5)) :
    Code.wp Tryz.prog code_r24f Q { tmps := List.toArray (Value.slice (some { block := lg, off := lo }) vals.length lc :: u1 :: u2 :: u3 :: u4 :: Value.slice (some { block := gb, off := 0 }) vals.length vals.length :: u6 :: u7 :: u8 :: Value.int IntKind.i64 ↑k :: Value.int IntKind.i64 ↑j :: u11 :: u12 :: u13 :: u14 :: u15 :: u16 :: u17 :: u18 :: u19 :: u20 :: u21 :: u22 :: u23 :: u24 :: u25 :: u26 :: u27 :: u28 :: u29 :: u30 :: u31 :: u32 :: u33 :: u34 :: u35 :: u36 :: u37 :: u38 :: u39 :: u40 :: u41 :: u42 :: u43 :: u44 :: u45 :: u46 :: u47 :: u48 :: u49 :: u50 :: u51 :: u52 :: u53 :: u54 :: u55 :: u56 :: u57 :: u58 :: u59 :: u60 :: u61 :: u62 :: u63 :: u64 :: u65 :: u66 :: u67 :: u68 :: u69 :: u70 :: u71 :: u72 :: Value.int IntKind.i64 ↑k :: Value.slice (some { block := lg, off := lo }) vals.length lc :: Value.int IntKind.i64 ↑vals.length :: Value.bool true :: u77 :: u78 :: Value.int IntKind.i64 ↑j :: Value.slice (some { block := gb, off := 0 }) vals.length vals.length :: Value.int IntKind.i64 ↑k :: Value.pointer (some { block := gb, off := k }) :: Value.slice (some { block := gg, off := 0 }) (n k + 64) cg :: Value.int IntKind.i64 (↑(n k) + 64) :: Value.bool true :: u86 :: u87 :: u88 :: u89 :: u90 :: u91 :: u92 :: u93 :: u94 :: u95 :: u96 :: u97 :: u98 :: u99 :: u100 :: u101 :: u102 :: u103 :: u104 :: u105 :: u106 :: u107 :: u108 :: u109 :: u110 :: u111 :: u112 :: u113 :: u114 :: u115 :: u116 :: u117 :: u118 :: u119 :: u120 :: u121 :: u122 :: u123 :: u124 :: u125 :: u126 :: u127 :: u128 :: u129 :: u130 :: u131 :: u132 :: u133 :: u134 :: u135 :: u136 :: u137 :: u138 :: u139 :: u140 :: u141 :: u142 :: u143 :: u144 :: u145 :: u146 :: u147 :: u148 :: u149 :: u150 :: u151 :: u152 :: u153 :: u154 :: u155 :: u156 :: u157 :: u158 :: u159 :: u160 :: u161 :: u162 :: u163 :: u164 :: u165 :: u166 :: u167 :: u168 :: u169 :: u170 :: u171 :: u172 :: u173 :: u174 :: u175 :: u176 :: u177 :: u178 :: u179 :: u180 :: u181 :: u182 :: u183 :: u184 :: u185 :: u186 :: u187 :: u188 :: u189 :: u190 :: u191 :: u192 :: []), defers := [] } wr := by
  have HQ := Lib.hid hQ
  clear hQ
  obtain ⟨z, hz⟩ : ∃ z : Int, z = wI k j := ⟨_, rfl⟩
  have HZ := Lib.hid hz
  clear hz
  conv => arg 2; whnf
  refine wp_region_flowS 34 (by decide) (by kernel_rfl) (But []) (fun _ _ _ h1 h2 => h1.trans h2 (by simp)) (⟨rfl, rfl, rfl, Nat.le_refl _, fun _ _ _ => rfl⟩) (GV [.slice (some ⟨gb, 0, none⟩) vals.length vals.length, .int .i64 (k : Int), .pointer (some ⟨gb, k, none⟩), .slice (some ⟨gg, 0, none⟩) (n k + 64) cg, .int .i64 (j : Int), .pointer (some ⟨gg, j * 5, none⟩), .agg #[.int .u8 0, .int .u8 0, .int .u8 0, .int .i16 0, .int .i32 z], .int .i64 (k : Int), .int .i64 (j : Int), .agg #[.int .u8 0, .int .u8 0, .int .u8 0, .int .i16 0, .int .i32 z], .bool true, .bool false, .bool false, .int .i64 (j : Int), .slice (some ⟨lg, lo, none⟩) vals.length lc, .int .i64 (k : Int), .pointer (some ⟨lg, lo + k, none⟩), .slice ra (n k) c, .int .i64 (n k : Int), .bool false, .bool false, undef, undef, undef, undef, undef, undef, undef, undef, undef, undef, undef, undef, .bool false]) [[], [], [(0, 88), (1, 89)], [(2, 90)], [], [(3, 91), (4, 92)], [(5, 93)], [], [], [(7, 95), (8, 96)], [(6, 94), (9, 97)], [(10, 98)], [(11, 99)], [(12, 100)], [(12, 100)], [(12, 100)], [(12, 100), (14, 102), (15, 103)], [(12, 100), (16, 104)], [(12, 100), (17, 105)], [(12, 100), (13, 101), (18, 106)], [(12, 100), (19, 107)], [(20, 108)], [(20, 108)], [(20, 108)], [(20, 108)], [(20, 108)], [(20, 108)], [(20, 108)], [(20, 108)], [(20, 108)], [(20, 108)], [(20, 108)], [(20, 108)], [(12, 100), (20, 108), (32, 120)]] [[(5, .slice (some ⟨gb, 0, none⟩) vals.length vals.length)], [(9, .int .i64 (k : Int))], [], [], [(10, .int .i64 (j : Int))], [], [], [(9, .int .i64 (k : Int))], [(10, .int .i64 (j : Int))], [], [], [], [], [(10, .int .i64 (j : Int))], [(0, .slice (some ⟨lg, lo, none⟩) vals.length lc)], [(9, .int .i64 (k : Int))], [], [], [], [], [], [], [], [], [], [], [], [], [], [], [], [], [], []] (by kernel_rfl) (by kernel_rfl) (by kernel_rfl) (by kernel_rfl) ?_ (fun _ _ _ _ _ h _ => h) [none, none, none, none, none, none, none, none, none, none, none, none, none, none, none, none, none, none, none, none, none, none, none, none, none, none, none, none, none, none, none, none, none, none, none, none, none, none, none, none, none, none, none, none, none, none, none, none, none, none, none, none, none, none, none, none, none, none, none, none, none, none, none, none, none, none, none, none, none, none, none, none, none, none, none, none, none, none, none, none, none, none, none, none, none, none, none, none, some 88, some 89, some 90, some 91, some 92, some 93, some 94, some 95, some 96, some 97, some 98, some 99, some 100, some 101, some 102, some 103, some 104, some 105, some 106, some 107, some 108, some 109, some 110, some 111, some 112, some 113, some 114, some 115, some 116, some 117, some 118, some 119, some 120, some 121, none, none, none, none, none, none, none, none, none, none, none, none, none, none, none, none, none, none, none, none, none, none, none, none, none, none, none, none, none, none, none, none, none, none, none, none, none, none, none, none, none, none, none, none, none, none, none, none, none, none, none, none, none, none, none, none, none, none, none, none, none, none, none, none, none, none, none, none, none, none, none] (by kernel_rfl) (by rfl) ?_ ?_
  · exact ⟨⟨rfl, trivial⟩, ⟨rfl, trivial⟩, trivial, trivial, ⟨rfl, trivial⟩, trivial, trivial, ⟨rfl, trivial⟩, ⟨rfl, trivial⟩, trivial, trivial, trivial, trivial, ⟨rfl, trivial⟩, ⟨rfl, trivial⟩, ⟨rfl, trivial⟩, trivial, trivial, trivial, trivial, trivial, trivial, trivial, trivial, trivial, trivial, trivial, trivial, trivial, trivial, trivial, trivial, trivial, trivial, trivial⟩
  · simp only [List.take_succ_cons, List.take_zero]
    -- 88
    refine ⟨fun a9 w9 hR hk hf => ?_, ?_⟩
    · simp only [KnowF, FreeF, and_true] at hk hf
      have e5 : a9.tmps[5]?.getD undef = .slice (some ⟨gb, 0, none⟩) vals.length vals.length := freeF_ev hf
      exact flow_on (rfl) (flow_run (v := .slice (some ⟨gb, 0, none⟩) vals.length vals.length) (by go_simp) (But.refl _ _) (GV.of rfl))
    -- 89
    refine ⟨fun a9 w9 hR hk hf => ?_, ?_⟩
    · simp only [KnowF, FreeF, and_true] at hk hf
      have e9 : a9.tmps[9]?.getD undef = .int .i64 (k : Int) := freeF_ev hf
      exact flow_on (rfl) (flow_run (v := .int .i64 (k : Int)) (by go_simp) (But.refl _ _) (GV.of rfl))
    -- 90
    refine ⟨fun a9 w9 hR hk hf => ?_, ?_⟩
    · simp only [KnowF, FreeF, and_true] at hk hf
      have e88 := (hk.1).ev (v := .slice (some ⟨gb, 0, none⟩) vals.length vals.length) rfl
      have e89 := (hk.2).ev (v := .int .i64 (k : Int)) rfl
      exact flow_on (rfl) (flow_run (v := .pointer (some ⟨gb, k, none⟩)) (by go_simp) (But.refl _ _) (GV.of rfl))
    -- 91
    refine ⟨fun a9 w9 hR hk hf => ?_, ?_⟩
    · simp only [KnowF, FreeF, and_true] at hk hf
      have e90 := (hk).ev (v := .pointer (some ⟨gb, k, none⟩)) rfl
      have f0 := cell_but hR G3'.out (by simp)
      exact flow_on (rfl) (flow_run (v := .slice (some ⟨gg, 0, none⟩) (n k + 64) cg) (by go_simp) (But.refl _ _) (GV.of rfl))
    -- 92
    refine ⟨fun a9 w9 hR hk hf => ?_, ?_⟩
    · simp only [KnowF, FreeF, and_true] at hk hf
      have e10 : a9.tmps[10]?.getD undef = .int .i64 (j : Int) := freeF_ev hf
      exact flow_on (rfl) (flow_run (v := .int .i64 (j : Int)) (by go_simp) (But.refl _ _) (GV.of rfl))
    -- 93
    refine ⟨fun a9 w9 hR hk hf => ?_, ?_⟩
    · simp only [KnowF, FreeF, and_true] at hk hf
      have e91 := (hk.1).ev (v := .slice (some ⟨gg, 0, none⟩) (n k + 64) cg) rfl
      have e92 := (hk.2).ev (v := .int .i64 (j : Int)) rfl
      exact flow_on (rfl) (flow_run (v := .pointer (some ⟨gg, j * 5, none⟩)) (by go_simp) (But.refl _ _) (GV.of rfl))
    -- 94
    refine ⟨fun a9 w9 hR hk hf => ?_, ?_⟩
    · simp only [KnowF, FreeF, and_true] at hk hf
      have e93 := (hk).ev (v := .pointer (some ⟨gg, j * 5, none⟩)) rfl
      have hh := R2.out.but hR
      have f0 := hh.1
      have f1 := hh.2.1
      have f2 := hh.2.2.1
      have f3 := hh.2.2.2.1
      have f4 := hh.2.2.2.2
      simp only [mI] at f0 f1 f2 f3 f4
      rw [← HZ.out] at f4
      clear hh
      exact flow_on (rfl) (flow_run (v := .agg #[.int .u8 0, .int .u8 0, .int .u8 0, .int .i16 0, .int .i32 z]) (by go_simp) (But.refl _ _) (GV.of rfl))
    -- 95
    refine ⟨fun a9 w9 hR hk hf => ?_, ?_⟩
    · simp only [KnowF, FreeF, and_true] at hk hf
      have e9 : a9.tmps[9]?.getD undef = .int .i64 (k : Int) := freeF_ev hf
      exact flow_on (rfl) (flow_run (v := .int .i64 (k : Int)) (by go_simp) (But.refl _ _) (GV.of rfl))
    -- 96
    refine ⟨fun a9 w9 hR hk hf => ?_, ?_⟩
    · simp only [KnowF, FreeF, and_true] at hk hf
      have e10 : a9.tmps[10]?.getD undef = .int .i64 (j : Int) := freeF_ev hf
      exact flow_on (rfl) (flow_run (v := .int .i64 (j : Int)) (by go_simp) (But.refl _ _) (GV.of rfl))
    -- 97
    refine ⟨fun a9 w9 hR hk hf => ?_, ?_⟩
    · simp only [KnowF, FreeF, and_true] at hk hf
      have e95 := (hk.1).ev (v := .int .i64 (k : Int)) rfl
      have e96 := (hk.2).ev (v := .int .i64 (j : Int)) rfl
      exact flow_on (rfl) (flow_call (f := 31) (args := #[.int .i64 (k : Int), .int .i64 (j : Int)]) (by go_simp) ((markInstr _ _ _).mono (by rintro e w' ⟨rfl, hb⟩; exact ⟨_, rfl, hb, GV.of (by rw [← HZ.out]; rfl)⟩)))
    -- 98
    refine ⟨fun a9 w9 hR hk hf => ?_, ?_⟩
    · simp only [KnowF, FreeF, and_true] at hk hf
      have e94 := (hk.1).ev (v := .agg #[.int .u8 0, .int .u8 0, .int .u8 0, .int .i16 0, .int .i32 z]) rfl
      have e97 := (hk.2).ev (v := .agg #[.int .u8 0, .int .u8 0, .int .u8 0, .int .i16 0, .int .i32 z]) rfl
      exact flow_on (rfl) (flow_run (v := .bool true) (by go_simp) (But.refl _ _) (GV.of rfl))
    -- 99
    refine ⟨fun a9 w9 hR hk hf => ?_, ?_⟩
    · simp only [KnowF, FreeF, and_true] at hk hf
      have e98 := (hk).ev (v := .bool true) rfl
      exact flow_on (rfl) (flow_run (v := .bool false) (by go_simp) (But.refl _ _) (GV.of rfl))
    -- 100
    refine ⟨fun a9 w9 hR hk hf => ?_, ?_⟩
    · simp only [KnowF, FreeF, and_true] at hk hf
      have e99 := (hk).ev (v := .bool false) rfl
      exact flow_on (rfl) (flow_run (v := .bool false) (by go_simp) (But.refl _ _) (GV.of rfl))
    -- 101
    refine ⟨fun a9 w9 hR hk hf => ?_, ?_⟩
    · simp only [KnowF, FreeF, and_true] at hk hf
      have hgd := (hk).eval (v := .bool false) rfl
      have e10 : a9.tmps[10]?.getD undef = .int .i64 (j : Int) := freeF_ev hf
      exact flow_on (wanted_at (j := 12) (b := false) (s := 100) rfl rfl hgd) (flow_run (v := .int .i64 (j : Int)) (by go_simp) (But.refl _ _) (GV.of rfl))
    -- 102
    refine ⟨fun a9 w9 hR hk hf => ?_, ?_⟩
    · simp only [KnowF, FreeF, and_true] at hk hf
      have hgd := (hk).eval (v := .bool false) rfl
      have e0 : a9.tmps[0]?.getD undef = .slice (some ⟨lg, lo, none⟩) vals.length lc := freeF_ev hf
      exact flow_on (wanted_at (j := 12) (b := false) (s := 100) rfl rfl hgd) (flow_run (v := .slice (some ⟨lg, lo, none⟩) vals.length lc) (by go_simp) (But.refl _ _) (GV.of rfl))
    -- 103
    refine ⟨fun a9 w9 hR hk hf => ?_, ?_⟩
    · simp only [KnowF, FreeF, and_true] at hk hf
      have hgd := (hk).eval (v := .bool false) rfl
      have e9 : a9.tmps[9]?.getD undef = .int .i64 (k : Int) := freeF_ev hf
      exact flow_on (wanted_at (j := 12) (b := false) (s := 100) rfl rfl hgd) (flow_run (v := .int .i64 (k : Int)) (by go_simp) (But.refl _ _) (GV.of rfl))
    -- 104
    refine ⟨fun a9 w9 hR hk hf => ?_, ?_⟩
    · simp only [KnowF, FreeF, and_true] at hk hf
      have hgd := (hk.1).eval (v := .bool false) rfl
      have e102 := (hk.2.1).ev (v := .slice (some ⟨lg, lo, none⟩) vals.length lc) rfl
      have e103 := (hk.2.2).ev (v := .int .i64 (k : Int)) rfl
      exact flow_on (wanted_at (j := 12) (b := false) (s := 100) rfl rfl hgd) (flow_run (v := .pointer (some ⟨lg, lo + k, none⟩)) (by go_simp) (But.refl _ _) (GV.of rfl))
    -- 105
    refine ⟨fun a9 w9 hR hk hf => ?_, ?_⟩
    · simp only [KnowF, FreeF, and_true] at hk hf
      have hgd := (hk.1).eval (v := .bool false) rfl
      have e104 := (hk.2).ev (v := .pointer (some ⟨lg, lo + k, none⟩)) rfl
      have f0 := cell_but hR L3.out (by simp)
      exact flow_on (wanted_at (j := 12) (b := false) (s := 100) rfl rfl hgd) (flow_run (v := .slice ra (n k) c) (by go_simp) (But.refl _ _) (GV.of rfl))
    -- 106
    refine ⟨fun a9 w9 hR hk hf => ?_, ?_⟩
    · simp only [KnowF, FreeF, and_true] at hk hf
      have hgd := (hk.1).eval (v := .bool false) rfl
      have e105 := (hk.2).ev (v := .slice ra (n k) c) rfl
      exact flow_on (wanted_at (j := 12) (b := false) (s := 100) rfl rfl hgd) (flow_run (v := .int .i64 (n k : Int)) (by go_simp) (But.refl _ _) (GV.of rfl))
    -- 107
    refine ⟨fun a9 w9 hR hk hf => ?_, ?_⟩
    · simp only [KnowF, FreeF, and_true] at hk hf
      have hgd := (hk.1).eval (v := .bool false) rfl
      have e101 := (hk.2.1).ev (v := .int .i64 (j : Int)) rfl
      have e106 := (hk.2.2).ev (v := .int .i64 (n k : Int)) rfl
      exact flow_on (wanted_at (j := 12) (b := false) (s := 100) rfl rfl hgd) (flow_run (v := .bool false) (by go_simp) (But.refl _ _) (GV.of rfl))
    -- 108
    refine ⟨fun a9 w9 hR hk hf => ?_, ?_⟩
    · simp only [KnowF, FreeF, and_true] at hk hf
      have hgd := (hk.1).eval (v := .bool false) rfl
      have e107 := (hk.2).ev (v := .bool false) rfl
      exact flow_on (wanted_at (j := 12) (b := false) (s := 100) rfl rfl hgd) (flow_run (v := .bool false) (by go_simp) (But.refl _ _) (GV.of rfl))
    -- 109
    refine ⟨fun a9 w9 hR hk hf => ?_, ?_⟩
    · simp only [KnowF, FreeF, and_true] at hk hf
      have hgd := (hk).eval (v := .bool false) rfl
      exact flow_off (wanted_at (j := 20) (b := true) (s := 108) rfl rfl hgd) (But.refl _ _) (GV.of rfl)
    -- 110
    refine ⟨fun a9 w9 hR hk hf => ?_, ?_⟩
    · simp only [KnowF, FreeF, and_true] at hk hf
      have hgd := (hk).eval (v := .bool false) rfl
      exact flow_off (wanted_at (j := 20) (b := true) (s := 108) rfl rfl hgd) (But.refl _ _) (GV.of rfl)
    -- 111
    refine ⟨fun a9 w9 hR hk hf => ?_, ?_⟩
    · simp only [KnowF, FreeF, and_true] at hk hf
      have hgd := (hk).eval (v := .bool false) rfl
      exact flow_off (wanted_at (j := 20) (b := true) (s := 108) rfl rfl hgd) (But.refl _ _) (GV.of rfl)
    -- 112
    refine ⟨fun a9 w9 hR hk hf => ?_, ?_⟩
    · simp only [KnowF, FreeF, and_true] at hk hf
      have hgd := (hk).eval (v := .bool false) rfl
      exact flow_off (wanted_at (j := 20) (b := true) (s := 108) rfl rfl hgd) (But.refl _ _) (GV.of rfl)
    -- 113
    refine ⟨fun a9 w9 hR hk hf => ?_, ?_⟩
    · simp only [KnowF, FreeF, and_true] at hk hf
      have hgd := (hk).eval (v := .bool false) rfl
      exact flow_off (wanted_at (j := 20) (b := true) (s := 108) rfl rfl hgd) (But.refl _ _) (GV.of rfl)
    -- 114
    refine ⟨fun a9 w9 hR hk hf => ?_, ?_⟩
    · simp only [KnowF, FreeF, and_true] at hk hf
      have hgd := (hk).eval (v := .bool false) rfl
      exact flow_off (wanted_at (j := 20) (b := true) (s := 108) rfl rfl hgd) (But.refl _ _) (GV.of rfl)
    -- 115
    refine ⟨fun a9 w9 hR hk hf => ?_, ?_⟩
    · simp only [KnowF, FreeF, and_true] at hk hf
      have hgd := (hk).eval (v := .bool false) rfl
      exact flow_off (wanted_at (j := 20) (b := true) (s := 108) rfl rfl hgd) (But.refl _ _) (GV.of rfl)
    -- 116
    refine ⟨fun a9 w9 hR hk hf => ?_, ?_⟩
    · simp only [KnowF, FreeF, and_true] at hk hf
      have hgd := (hk).eval (v := .bool false) rfl
      exact flow_off (wanted_at (j := 20) (b := true) (s := 108) rfl rfl hgd) (But.refl _ _) (GV.of rfl)
    -- 117
    refine ⟨fun a9 w9 hR hk hf => ?_, ?_⟩
    · simp only [KnowF, FreeF, and_true] at hk hf
      have hgd := (hk).eval (v := .bool false) rfl
      exact flow_off (wanted_at (j := 20) (b := true) (s := 108) rfl rfl hgd) (But.refl _ _) (GV.of rfl)
    -- 118
    refine ⟨fun a9 w9 hR hk hf => ?_, ?_⟩
    · simp only [KnowF, FreeF, and_true] at hk hf
      have hgd := (hk).eval (v := .bool false) rfl
      exact flow_off (wanted_at (j := 20) (b := true) (s := 108) rfl rfl hgd) (But.refl _ _) (GV.of rfl)
    -- 119
    refine ⟨fun a9 w9 hR hk hf => ?_, ?_⟩
    · simp only [KnowF, FreeF, and_true] at hk hf
      have hgd := (hk).eval (v := .bool false) rfl
      exact flow_off (wanted_at (j := 20) (b := true) (s := 108) rfl rfl hgd) (But.refl _ _) (GV.of rfl)
    -- 120
    refine ⟨fun a9 w9 hR hk hf => ?_, ?_⟩
    · simp only [KnowF, FreeF, and_true] at hk hf
      have hgd := (hk).eval (v := .bool false) rfl
      exact flow_off (wanted_at (j := 20) (b := true) (s := 108) rfl rfl hgd) (But.refl _ _) (GV.of rfl)
    -- 121
    refine ⟨fun a9 w9 hR hk hf => ?_, ?_⟩
    · simp only [KnowF, FreeF, and_true] at hk hf
      have hgd := (hk.1).eval (v := .bool false) rfl
      have e108 := (hk.2.1).ev (v := .bool false) rfl
      have e120 := (hk.2.2).ev (v := undef) rfl
      exact flow_on (wanted_at (j := 12) (b := false) (s := 100) rfl rfl hgd) (flow_run (v := .bool false) (by go_simp) (But.refl _ _) (GV.of rfl))
    exact trivial
  · intro f w5 hb5 hG
    have e100 : f 100 = .bool false := hG 12 _ 100 (by decide) rfl rfl _ rfl
    have e121 : f 121 = .bool false := hG 33 _ 121 (by decide) rfl rfl _ rfl
    have HB5 := Lib.hid hb5
    clear hG hb5
    simp only [List.drop_succ_cons, List.drop_zero]
    show wpList _ _ _ _ { tmps := List.toArray (Value.slice (some { block := lg, off := lo }) vals.length lc :: u1 :: u2 :: u3 :: u4 :: Value.slice (some { block := gb, off := 0 }) vals.length vals.length :: u6 :: u7 :: u8 :: Value.int IntKind.i64 ↑k :: Value.int IntKind.i64 ↑j :: u11 :: u12 :: u13 :: u14 :: u15 :: u16 :: u17 :: u18 :: u19 :: u20 :: u21 :: u22 :: u23 :: u24 :: u25 :: u26 :: u27 :: u28 :: u29 :: u30 :: u31 :: u32 :: u33 :: u34 :: u35 :: u36 :: u37 :: u38 :: u39 :: u40 :: u41 :: u42 :: u43 :: u44 :: u45 :: u46 :: u47 :: u48 :: u49 :: u50 :: u51 :: u52 :: u53 :: u54 :: u55 :: u56 :: u57 :: u58 :: u59 :: u60 :: u61 :: u62 :: u63 :: u64 :: u65 :: u66 :: u67 :: u68 :: u69 :: u70 :: u71 :: u72 :: Value.int IntKind.i64 ↑k :: Value.slice (some { block := lg, off := lo }) vals.length lc :: Value.int IntKind.i64 ↑vals.length :: Value.bool true :: u77 :: u78 :: Value.int IntKind.i64 ↑j :: Value.slice (some { block := gb, off := 0 }) vals.length vals.length :: Value.int IntKind.i64 ↑k :: Value.pointer (some { block := gb, off := k }) :: Value.slice (some { block := gg, off := 0 }) (n k + 64) cg :: Value.int IntKind.i64 (↑(n k) + 64) :: Value.bool true :: u86 :: u87 :: f 88 :: f 89 :: f 90 :: f 91 :: f 92 :: f 93 :: f 94 :: f 95 :: f 96 :: f 97 :: f 98 :: f 99 :: f 100 :: f 101 :: f 102 :: f 103 :: f 104 :: f 105 :: f 106 :: f 107 :: f 108 :: f 109 :: f 110 :: f 111 :: f 112 :: f 113 :: f 114 :: f 115 :: f 116 :: f 117 :: f 118 :: f 119 :: f 120 :: f 121 :: u122 :: u123 :: u124 :: u125 :: u126 :: u127 :: u128 :: u129 :: u130 :: u131 :: u132 :: u133 :: u134 :: u135 :: u136 :: u137 :: u138 :: u139 :: u140 :: u141 :: u142 :: u143 :: u144 :: u145 :: u146 :: u147 :: u148 :: u149 :: u150 :: u151 :: u152 :: u153 :: u154 :: u155 :: u156 :: u157 :: u158 :: u159 :: u160 :: u161 :: u162 :: u163 :: u164 :: u165 :: u166 :: u167 :: u168 :: u169 :: u170 :: u171 :: u172 :: u173 :: u174 :: u175 :: u176 :: u177 :: u178 :: u179 :: u180 :: u181 :: u182 :: u183 :: u184 :: u185 :: u186 :: u187 :: u188 :: u189 :: u190 :: u191 :: u192 :: []), defers := [] } w5
    go_wp2_with fail
    exact HQ.out _ _ _ _ _ _ _ _ _ _ _ _ _ _ _ _ _ _ _ _ _ _ _ _ _ _ _ _ _ _ _ _ _ _ _ HB5.out
noncomputable def code_gl4 : Code := dropSeqI 4 (Tryz.f54.body.getD .skip)
set_option maxRecDepth 100000 in
set_option maxHeartbeats 4000000 in
theorem gl4 {w : World} {vals : List Value} {n : Nat → Nat} {lg lo lc : Nat} {gb : Nat} {w1 : World} {u1 u2 u3 u4 u6 u7 u8 u9 u10 u11 u12 u13 u14 u15 u16 u17 u18 u19 u20 u21 u22 u23 u24 u25 u26 u27 u28 u29 u30 u31 u32 u33 u34 u35 u36 u37 u38 u39 u40 u41 u42 u43 u44 u45 u46 u47 u48 u49 u50 u51 u52 u53 u54 u55 u56 u57 u58 u59 u60 u61 u62 u63 u64 u65 u66 u67 u68 u69 u70 u71 u72 u73 u74 u75 u76 u77 u78 u79 u80 u81 u82 u83 u84 u85 u86 u87 u88 u89 u90 u91 u92 u93 u94 u95 u96 u97 u98 u99 u100 u101 u102 u103 u104 u105 u106 u107 u108 u109 u110 u111 u112 u113 u114 u115 u116 u117 u118 u119 u120 u121 u122 u123 u124 u125 u126 u127 u128 u129 u130 u131 u132 u133 u134 u135 u136 u137 u138 u139 u140 u141 u142 u143 u144 u145 u146 u147 u148 u149 u150 u151 u152 u153 u154 u155 u156 u157 u158 u159 u160 u161 u162 u163 u164 u165 u166 u167 u168 u169 u170 u171 u172 u173 u174 u175 u176 u177 u178 u179 u180 u181 u182 u183 u184 u185 u186 u187 u188 u189 u190 u191 u192 : Value} (HA : Hid (ApartV vals)) (HN : Hid (∀ (k : Nat) (v : Value), vals[k]? = some v → (∃ a c, v = .slice a (n k) c) ∧ n k ≤ 1000000000000)) (hK : vals.length ≤ 1000000) (HLOW : Hid (∀ (k : Nat) (v : Value) (b : Nat), vals[k]? = some v → v.ownBlock = some b → b < w.heap.size)) (hlg : lg < w.heap.size) (HF : Hid (FI w w1 vals n (.slice (some ⟨lg, lo, none⟩) vals.length lc))) (hgb : w.heap.size ≤ gb) (HG : Hid (Grown3I w w1 vals n (.slice (some ⟨gb, 0, none⟩) vals.length vals.length) vals.length)) :
    Code.wp Tryz.prog code_gl4 (bodyPost Tryz.prog Tryz.f54 fun e w' => e = .returned (.bool true) ∧ But (blks vals) w w') { tmps := List.toArray (.slice (some ⟨lg, lo, none⟩) vals.length lc :: u1 :: u2 :: u3 :: u4 :: .slice (some ⟨gb, 0, none⟩) vals.length vals.length :: u6 :: u7 :: u8 :: u9 :: u10 :: u11 :: u12 :: u13 :: u14 :: u15 :: u16 :: u17 :: u18 :: u19 :: u20 :: u21 :: u22 :: u23 :: u24 :: u25 :: u26 :: u27 :: u28 :: u29 :: u30 :: u31 :: u32 :: u33 :: u34 :: u35 :: u36 :: u37 :: u38 :: u39 :: u40 :: u41 :: u42 :: u43 :: u44 :: u45 :: u46 :: u47 :: u48 :: u49 :: u50 :: u51 :: u52 :: u53 :: u54 :: u55 :: u56 :: u57 :: u58 :: u59 :: u60 :: u61 :: u62 :: u63 :: u64 :: u65 :: u66 :: u67 :: u68 :: u69 :: u70 :: u71 :: u72 :: u73 :: u74 :: u75 :: u76 :: u77 :: u78 :: u79 :: u80 :: u81 :: u82 :: u83 :: u84 :: u85 :: u86 :: u87 :: u88 :: u89 :: u90 :: u91 :: u92 :: u93 :: u94 :: u95 :: u96 :: u97 :: u98 :: u99 :: u100 :: u101 :: u102 :: u103 :: u104 :: u105 :: u106 :: u107 :: u108 :: u109 :: u110 :: u111 :: u112 :: u113 :: u114 :: u115 :: u116 :: u117 :: u118 :: u119 :: u120 :: u121 :: u122 :: u123 :: u124 :: u125 :: u126 :: u127 :: u128 :: u129 :: u130 :: u131 :: u132 :: u133 :: u134 :: u135 :: u136 :: u137 :: u138 :: u139 :: u140 :: u141 :: u142 :: u143 :: u144 :: u145 :: u146 :: u147 :: u148 :: u149 :: u150 :: u151 :: u152 :: u153 :: u154 :: u155 :: u156 :: u157 :: u158 :: u159 :: u160 :: u161 :: u162 :: u163 :: u164 :: u165 :: u166 :: u167 :: u168 :: u169 :: u170 :: u171 :: u172 :: u173 :: u174 :: u175 :: u176 :: u177 :: u178 :: u179 :: u180 :: u181 :: u182 :: u183 :: u184 :: u185 :: u186 :: u187 :: u188 :: u189 :: u190 :: u191 :: u192 :: []), defers := [] } w1 := by
  conv => arg 2; whnf
  go_upto_block 8 with fail
  go_cut [] (fun wx => But [] w1 wx)
  case first =>
    go_wp2_with fail
    go_loopw [9] (fun i wr => ∃ k : Nat, k ≤ vals.length ∧ i = .int .i64 k ∧ But [] w1 wr) (fun i _ => vals.length - (intOf i).toNat)
    case atStart => exact ⟨0, Nat.zero_le _, rfl, But.refl _ _⟩
    case round =>
      obtain ⟨k, hk, rfl, hb⟩ := hrel
      have HB := Lib.hid hb
      clear hb
      by_cases hlt : k < vals.length
      · obtain ⟨a, c, hv, hnk⟩ := valsI_at HN hlt
        obtain ⟨gv, hgl, hgq, hgr⟩ := HG.out
        obtain ⟨G, hG⟩ : ∃ G, gv[k]? = some G := ⟨_, List.getElem?_eq_getElem (by omega)⟩
        have hgo := hgr k G _ hlt hG hv
        obtain ⟨ag, cg, eg⟩ := hgo.1.form
        rw [marksI_len] at eg
        subst eg
        obtain ⟨gg, rfl⟩ := hgo.1.addr (by omega)
        have hk0 : (0 : Int) ≤ k := by omega
        have hk1 : (k : Int) < vals.length := by omega
        have lc1 : w1.cell? ⟨lg, lo + k, none⟩ = some (.slice a (n k) c) := HF.out.lsq.cellAt hv
        have gc1 : w1.cell? ⟨gb, k, none⟩ = some (.slice (some ⟨gg, 0, none⟩) (n k + 64) cg) := by have := hgq.cellAt hG; rwa [Nat.zero_add] at this
        have HV := Lib.hid hv
        have HGO := Lib.hid hgo
        have HL1 := Lib.hid lc1
        have HG1 := Lib.hid gc1
        clear hv hgl hgq hgr hG hgo lc1 gc1
        go_wp2_with fail
        go_loopw [10] (fun i wx => ∃ j : Nat, j ≤ n k + 64 ∧ i = .int .i64 j ∧ But [] w1 wx) (fun i _ => n k + 64 - (intOf i).toNat)
        case atStart => exact ⟨0, Nat.zero_le _, rfl, HB.out⟩
        case round =>
          obtain ⟨j, hj, rfl, hbx⟩ := hrel
          have lc3 : wr.cell? ⟨lg, lo + k, none⟩ = some (.slice a (n k) c) := cell_but hbx HL1.out (by simp)
          have gc3 : wr.cell? ⟨gb, k, none⟩ = some (.slice (some ⟨gg, 0, none⟩) (n k + 64) cg) := cell_but hbx HG1.out (by simp)
          have HBX := Lib.hid hbx
          by_cases hjl : j < n k + 64
          · have R2 := Lib.hid ((HGO.out.1.at5 (marksI_at hjl)).but hbx)
            have hj0 : (0 : Int) ≤ j := by omega
            have hj2 : (j : Int) < (n k : Int) + 64 := by omega
            have G3' := Lib.hid gc3
            by_cases hjn : j < n k
            · obtain ⟨g, rfl⟩ := (HF.out.rows k _ HV.out).addr (by omega)
              have R1 := Lib.hid (((HF.out.rows k _ HV.out).at5 (marksI_at hjn)).but hbx)
              have L3 := Lib.hid lc3
              have hj1 : (j : Int) < n k := by omega
              have d1 : decide (j < n k) = true := by simpa using hjn
              clear hbx
              go_wp2_with fail
              refine reg24t _ L3 G3' R1 R2 hk1 hj1 hj2 d1 ?_
              intro z88 z89 z90 z91 z92 z93 z94 z95 z96 z97 z98 z99 z100 z101 z102 z103 z104 z105 z106 z107 z108 z109 z110 z111 z112 z113 z114 z115 z116 z117 z118 z119 z120 z121 w5 hb5
              have HB5 := Lib.hid (HBX.out.trans hb5 (by simp))
              clear hb5
              go_wp2_with fail
              go_roundw
              case rel => exact ⟨j + 1, by omega, by go_num, HB5.out⟩
              case measure => simp [intOf]; omega
            · have d1 : decide (j < n k) = false := by simpa using hjn
              have L3 := Lib.hid lc3
              clear hbx
              go_wp2_with fail
              refine reg24f _ L3 G3' R2 hk1 hj2 d1 ?_
              intro z88 z89 z90 z91 z92 z93 z94 z95 z96 z97 z98 z99 z100 z101 z102 z103 z104 z105 z106 z107 z108 z109 z110 z111 z112 z113 z114 z115 z116 z117 z118 z119 z120 z121 w5 hb5
              have HB5 := Lib.hid (HBX.out.trans hb5 (by simp))
              clear hb5
              go_wp2_with fail
              go_roundw
              case rel => exact ⟨j + 1, by omega, by go_num, HB5.out⟩
              case measure => simp [intOf]; omega
          · obtain rfl : j = n k + 64 := by omega
            go_wp2_with fail
            go_roundw
            case rel => exact ⟨k + 1, by omega, by go_num, HBX.out⟩
            case measure => simp [intOf]; omega
      · obtain rfl : k = vals.length := by omega
        go_wp2_with fail
        go_meet
        exact HB.out
  case rest =>
    refine (by assumption : ∀ (a : Act) (w1 : World), Code.wp Tryz.prog _ _ a w1 → _) _ _ ?_
    exact gl5 HA HN hK HLOW hlg (Lib.hid (HF.out.new hcut)) hgb (Lib.hid (HG.out.new hcut))
end Go.Proofs.YtddeckkcfcodbaaGreat.M
