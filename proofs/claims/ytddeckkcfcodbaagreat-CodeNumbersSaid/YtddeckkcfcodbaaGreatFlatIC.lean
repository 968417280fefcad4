/-
  hatchwaykit.flatProgram: the walk, the second loop.
-/
import Derived.Test.YtddeckkcfcodbaaGreatFlatIB
import Derived.Deep.DeepCutAuto
import Derived.Deep.CutBlock
import Derived.BigQuiet
import Derived.Deep.QuietTactic
import Derived.StillTailTactics
import Derived.Deep.DrawnRows
namespace Go.Proofs.YtddeckkcfcodbaaGreat.M
open Go.RowKit Go.Shelf
set_option linter.unusedVariables false
set_option linter.unusedSectionVars false
set_option linter.unusedSimpArgs false
theorem one_own (w : World) (x : Ins) : OwnI (w.alloc (.cells #[.int .u8 x.op, .int .u8 x.dst, .int .u8 x.src, .int .i16 x.off, .int .i32 x.imm] 27)) (.slice (some ⟨w.heap.size, 0, none⟩) 1 1) [x] :=
  .inr ⟨w.heap.size, 1, _, rfl, Array.getElem?_push_size, by simp, by unfold maxLen; omega, by simp, fun j u hj => by simpa [Ins.cells] using hj⟩
structure G3I (w wr : World) (vals : List Value) (n : Nat → Nat) (gb k H : Nat) (gv : List Value) : Prop where
  len : gv.length = vals.length
  gsq : OwnQ wr 28 (.slice (some ⟨gb, 0, none⟩) vals.length vals.length) gv
  low : gb < H
  each : ∀ (j : Nat) (G v : Value), j < k → gv[j]? = some G → vals[j]? = some v → GI w.heap.size wr G v (marksI j (n j + 64)) ∧ ∀ b, G.ownBlock = some b → b < H
theorem G3I.of {w wr : World} {vals : List Value} {n : Nat → Nat} {gb k : Nat} (h : Grown3I w wr vals n (.slice (some ⟨gb, 0, none⟩) vals.length vals.length) k) : ∃ gv, G3I w wr vals n gb k wr.heap.size gv := by
  obtain ⟨gv, h1, h2, h3⟩ := h
  exact ⟨gv, h1, h2, h2.lt rfl, fun j G v hj hG hv => ⟨h3 j G v hj hG hv, fun b hb => (h3 j G v hj hG hv).1.lt hb⟩⟩
theorem G3I.step {w wr w' : World} {vals : List Value} {n : Nat → Nat} {gb k H m i : Nat} {gv : List Value} {v g : Value} (h : G3I w wr vals n gb k H gv) (hA : ApartV vals) (hlow : ∀ (k : Nat) (v : Value) (b : Nat), vals[k]? = some v → v.ownBlock = some b → b < w.heap.size) (hgb : w.heap.size ≤ gb)
    (hv : vals[k]? = some v) (hr : (∃ a cap, v = .slice a m cap ∧ g = .slice a (m + i) cap) ∨ ∃ b, g.ownBlock = some b ∧ H ≤ b) (hb : But (if g.ownBlock = v.ownBlock then v.ownBlock else g.ownBlock).toList wr w') : G3I w w' vals n gb k H gv := by
  by_cases he : g.ownBlock = v.ownBlock
  · rw [if_pos he] at hb
    refine ⟨h.len, h.gsq.but hb (fun b hbl hm => ?_), h.low, fun j G u hj hG hu => ⟨(h.each j G u hj hG hu).1.other hA hu hv (by omega) (fun b hb => hlow k v b hv hb) hb, (h.each j G u hj hG hu).2⟩⟩
    cases hbl
    have := hlow k v gb hv (by simpa using hm)
    omega
  · rw [if_neg he] at hb
    have hr2 : ∃ b, g.ownBlock = some b ∧ H ≤ b := by
      rcases hr with ⟨a, cap, e1, e2⟩ | h2
      · exact absurd (by rw [e1, e2]; cases a <;> rfl) he
      · exact h2
    obtain ⟨b, e, hH⟩ := hr2
    rw [e] at hb
    have hb' : But [b] wr w' := hb
    refine ⟨h.len, h.gsq.but hb' (fun b' hbl hm => ?_), h.low, fun j G u hj hG hu => ⟨⟨(h.each j G u hj hG hu).1.1.but hb' (fun b' hbG hm => ?_), (h.each j G u hj hG hu).1.2⟩, (h.each j G u hj hG hu).2⟩⟩
    · cases hbl
      simp only [List.mem_singleton] at hm
      have := h.low
      omega
    · simp only [List.mem_singleton] at hm
      have := (h.each j G u hj hG hu).2 b' hbG
      omega
theorem G3I.done {w wr : World} {vals : List Value} {n : Nat → Nat} {ls : Value} {gb k H : Nat} {gv : List Value} {v g : Value} (h : G3I w wr vals n gb k H gv) (hF : FI w wr vals n ls) (hlow : ∀ (k : Nat) (v : Value) (b : Nat), vals[k]? = some v → v.ownBlock = some b → b < w.heap.size) (hls : ∀ b, ls.ownBlock = some b → b < w.heap.size) (hgb : w.heap.size ≤ gb) (hwH : w.heap.size ≤ H) (hk : k < vals.length)
    (hv : vals[k]? = some v) (hg : GrowI H wr k (n k) 64 v g) : FI w (wr.setCell ⟨gb, k, none⟩ g) vals n ls ∧ Grown3I w (wr.setCell ⟨gb, k, none⟩ g) vals n (.slice (some ⟨gb, 0, none⟩) vals.length vals.length) (k + 1) := by
  have hbs : But [gb] wr (wr.setCell ⟨gb, k, none⟩ g) := (But.refl _ _).setCell (.inl (by simp)) _
  have hgo : ∀ {G v : Value} {xs : List Ins}, GI w.heap.size wr G v xs → GI w.heap.size (wr.setCell ⟨gb, k, none⟩ g) G v xs := fun h' => ⟨h'.1.but hbs (fun b hbl hm => by
    simp only [List.mem_singleton] at hm
    subst hm
    exact h'.1.ne h.gsq (by decide) hbl rfl), h'.2⟩
  have hset := h.gsq.set k (by rw [h.len]; exact hk) g
  rw [Nat.zero_add] at hset
  refine ⟨hF.old hbs (fun x hx => by simp at hx; omega) (fun x hx hm => ?_) (fun b hb hm => ?_), gv.set k g, by rw [List.length_set]; exact h.len, hset, fun j G u hj hGj hu => ?_⟩
  · simp only [List.mem_singleton] at hx
    subst hx
    obtain ⟨k', v', h4, h5⟩ := of_blks hm
    have := hlow k' v' _ h4 h5
    omega
  · simp only [List.mem_singleton] at hm
    have := hls b hb
    omega
  · by_cases hjk : j = k
    · subst hjk
      rw [List.getElem?_set_self (by rw [h.len]; exact hk)] at hGj
      cases hGj
      rw [hv] at hu
      cases hu
      refine hgo ⟨hg.1, ?_⟩
      rcases hg.2 with ⟨a, cap, e1, e2⟩ | ⟨b, e, hH⟩
      · left; rw [e1, e2]; cases a <;> rfl
      · exact .inr ⟨b, e, by omega⟩
    · rw [List.getElem?_set_ne (Ne.symm hjk)] at hGj
      exact hgo (h.each j G u (by omega) hGj hu).1
theorem GrowI.form {H : Nat} {wr : World} {k m i : Nat} {v g : Value} (h : GrowI H wr k m i v g) : ∃ a c, g = .slice a (m + i) c := by
  obtain ⟨a, c, e⟩ := h.1.form
  rw [marksI_len] at e
  exact ⟨a, c, e⟩
noncomputable def code_gl3 : Code := dropSeqI 3 (Tryz.f54.body.getD .skip)
set_option maxRecDepth 100000 in
set_option maxHeartbeats 4000000 in
theorem gl3 {w : World} {vals : List Value} {n : Nat → Nat} {lg lo lc : Nat} {gb : Nat} {w1 : World} {u1 u2 u3 u4 u6 u7 u8 u9 u10 u11 u12 u13 u14 u15 u16 u17 u18 u19 u20 u21 u22 u23 u24 u25 u26 u27 u28 u29 u30 u31 u32 u33 u34 u35 u36 u37 u38 u39 u40 u41 u42 u43 u44 u45 u46 u47 u48 u49 u50 u51 u52 u53 u54 u55 u56 u57 u58 u59 u60 u61 u62 u63 u64 u65 u66 u67 u68 u69 u70 u71 u72 u73 u74 u75 u76 u77 u78 u79 u80 u81 u82 u83 u84 u85 u86 u87 u88 u89 u90 u91 u92 u93 u94 u95 u96 u97 u98 u99 u100 u101 u102 u103 u104 u105 u106 u107 u108 u109 u110 u111 u112 u113 u114 u115 u116 u117 u118 u119 u120 u121 u122 u123 u124 u125 u126 u127 u128 u129 u130 u131 u132 u133 u134 u135 u136 u137 u138 u139 u140 u141 u142 u143 u144 u145 u146 u147 u148 u149 u150 u151 u152 u153 u154 u155 u156 u157 u158 u159 u160 u161 u162 u163 u164 u165 u166 u167 u168 u169 u170 u171 u172 u173 u174 u175 u176 u177 u178 u179 u180 u181 u182 u183 u184 u185 u186 u187 u188 u189 u190 u191 u192 : Value} (HA : Hid (ApartV vals)) (HN : Hid (∀ (k : Nat) (v : Value), vals[k]? = some v → (∃ a c, v = .slice a (n k) c) ∧ n k ≤ 1000000000000)) (hK : vals.length ≤ 1000000) (HLOW : Hid (∀ (k : Nat) (v : Value) (b : Nat), vals[k]? = some v → v.ownBlock = some b → b < w.heap.size)) (hlg : lg < w.heap.size) (HF : Hid (FI w w1 vals n (.slice (some ⟨lg, lo, none⟩) vals.length lc))) (hgb : w.heap.size ≤ gb) (HGQ : Hid (Grown3I w w1 vals n (.slice (some ⟨gb, 0, none⟩) vals.length vals.length) 0)) :
    Code.wp Tryz.prog code_gl3 (bodyPost Tryz.prog Tryz.f54 fun e w' => e = .returned (.bool true) ∧ But (blks vals) w w') { tmps := List.toArray (.slice (some ⟨lg, lo, none⟩) vals.length lc :: u1 :: u2 :: u3 :: u4 :: .slice (some ⟨gb, 0, none⟩) vals.length vals.length :: u6 :: u7 :: u8 :: u9 :: u10 :: u11 :: u12 :: u13 :: u14 :: u15 :: u16 :: u17 :: u18 :: u19 :: u20 :: u21 :: u22 :: u23 :: u24 :: u25 :: u26 :: u27 :: u28 :: u29 :: u30 :: u31 :: u32 :: u33 :: u34 :: u35 :: u36 :: u37 :: u38 :: u39 :: u40 :: u41 :: u42 :: u43 :: u44 :: u45 :: u46 :: u47 :: u48 :: u49 :: u50 :: u51 :: u52 :: u53 :: u54 :: u55 :: u56 :: u57 :: u58 :: u59 :: u60 :: u61 :: u62 :: u63 :: u64 :: u65 :: u66 :: u67 :: u68 :: u69 :: u70 :: u71 :: u72 :: u73 :: u74 :: u75 :: u76 :: u77 :: u78 :: u79 :: u80 :: u81 :: u82 :: u83 :: u84 :: u85 :: u86 :: u87 :: u88 :: u89 :: u90 :: u91 :: u92 :: u93 :: u94 :: u95 :: u96 :: u97 :: u98 :: u99 :: u100 :: u101 :: u102 :: u103 :: u104 :: u105 :: u106 :: u107 :: u108 :: u109 :: u110 :: u111 :: u112 :: u113 :: u114 :: u115 :: u116 :: u117 :: u118 :: u119 :: u120 :: u121 :: u122 :: u123 :: u124 :: u125 :: u126 :: u127 :: u128 :: u129 :: u130 :: u131 :: u132 :: u133 :: u134 :: u135 :: u136 :: u137 :: u138 :: u139 :: u140 :: u141 :: u142 :: u143 :: u144 :: u145 :: u146 :: u147 :: u148 :: u149 :: u150 :: u151 :: u152 :: u153 :: u154 :: u155 :: u156 :: u157 :: u158 :: u159 :: u160 :: u161 :: u162 :: u163 :: u164 :: u165 :: u166 :: u167 :: u168 :: u169 :: u170 :: u171 :: u172 :: u173 :: u174 :: u175 :: u176 :: u177 :: u178 :: u179 :: u180 :: u181 :: u182 :: u183 :: u184 :: u185 :: u186 :: u187 :: u188 :: u189 :: u190 :: u191 :: u192 :: []), defers := [] } w1 := by
  conv => arg 2; whnf
  obtain ⟨i0, hi, hz0, hz1, hz2⟩ := info_parts (show (Tryz.prog.info? 27).map (fun i => (i.zero, i.size, i.bytes)) = some (some (.agg #[.int .u8 0, .int .u8 0, .int .u8 0, .int .i16 0, .int .i32 0]), 5, 12) by kernel_rfl)
  go_upto_block 4 with fail
  go_cut [] (fun wx => FI w wx vals n (.slice (some ⟨lg, lo, none⟩) vals.length lc) ∧ Grown3I w wx vals n (.slice (some ⟨gb, 0, none⟩) vals.length vals.length) vals.length)
  case first =>
    go_wp2_with fail
    go_loopw [6] (fun i wr => ∃ k : Nat, k ≤ vals.length ∧ i = .int .i64 k ∧ FI w wr vals n (.slice (some ⟨lg, lo, none⟩) vals.length lc) ∧ Grown3I w wr vals n (.slice (some ⟨gb, 0, none⟩) vals.length vals.length) k) (fun i _ => vals.length - (intOf i).toNat)
    case atStart => exact ⟨0, Nat.zero_le _, rfl, HF.out, HGQ.out⟩
    case round =>
      obtain ⟨k, hk, rfl, hF, hG⟩ := hrel
      have HF := Lib.hid hF
      have HG := Lib.hid hG
      clear hF hG HGQ
      by_cases hlt : k < vals.length
      · obtain ⟨a, c, hv, hnk⟩ := valsI_at HN hlt
        obtain ⟨gv, hg3⟩ := G3I.of HG.out
        obtain ⟨H, hH⟩ : ∃ H : Nat, H = wr.heap.size := ⟨_, rfl⟩
        rw [← hH] at hg3
        have hwH : w.heap.size ≤ H := by rw [hH]; exact HF.out.but.size
        have HHr : Hid (H ≤ wr.heap.size) := Lib.hid (by rw [hH]; exact Nat.le_refl _)
        have HG3 := Lib.hid hg3
        have HV := Lib.hid hv
        have hk0 : (0 : Int) ≤ k := by omega
        have hk1 : (k : Int) < vals.length := by omega
        have hFr := HF.out
        have lc1 : wr.cell? ⟨lg, lo + k, none⟩ = some (.slice a (n k) c) := hFr.lsq.cellAt hv
        have HGR : Hid (GrowI H wr k (n k) 0 (.slice a (n k) c) (.slice a (n k) c)) := Lib.hid (growI_start (hFr.rows k _ hv))
        have HLH : Hid (∀ (k : Nat) (v : Value) (b : Nat), vals[k]? = some v → v.ownBlock = some b → b < H) := Lib.hid (fun k v b h1 h2 => by have := HLOW.out k v b h1 h2; omega)
        clear hv hg3 hH hFr
        go_wp2_with fail
        go_loopw [7, 8] (fun g i wx => ∃ j : Nat, j ≤ 64 ∧ i = .int .i64 j ∧ FI w wx vals n (.slice (some ⟨lg, lo, none⟩) vals.length lc) ∧ G3I w wx vals n gb k H gv ∧ GrowI H wx k (n k) j (.slice a (n k) c) g ∧ H ≤ wx.heap.size) (fun _ i _ => 64 - (intOf i).toNat)
        case atStart => exact ⟨0, Nat.zero_le _, rfl, HF.out, HG3.out, HGR.out, HHr.out⟩
        case round =>
          obtain ⟨j, hj, rfl, hF, hG, hR, hHx⟩ := hrel
          obtain ⟨a2, c2, rfl⟩ := hR.form
          have lc2 : wr.cell? ⟨lg, lo + k, none⟩ = some (.slice a (n k) c) := hF.lsq.cellAt HV.out
          have HF := Lib.hid hF
          have HG := Lib.hid hG
          have HR := Lib.hid hR
          have HHx := Lib.hid hHx
          clear hF hG hR hHx HGR HG3 HHr
          by_cases hjl : j < 64
          · have hj0 : (0 : Int) ≤ j := by omega
            have hj1 : (j : Int) < 64 := by omega
            have KQ := Lib.hid (fun (wm : World) (hbm : But [] wr wm) => HR.out.1.but (hbm.alloc (.cells #[.int .u8 0, .int .u8 0, .int .u8 0, .int .i16 0, .int .i32 (wI k ((n k : Int) + j))] 27)) (by simp))
            have KS := Lib.hid (fun (wm : World) => src_ins (P := Tryz.prog) Tryz.underlying28 (l := [mI k ((n k : Int) + j)]) rfl (one_own wm (mI k ((n k : Int) + j))))
            have key : ∀ (wm : World), But [] wr wm → ∀ (v' : Value) (w5 : World), AppI (wm.alloc (.cells #[.int .u8 0, .int .u8 0, .int .u8 0, .int .i16 0, .int .i32 (wI k ((n k : Int) + j))] 27)) w5 (.slice a2 (n k + j) c2) v' (marksI k (n k + j)) [mI k ((n k : Int) + j)] → ∃ a' c', v' = Value.slice a' (n k + (j + 1)) c' ∧ FI w w5 vals n (.slice (some ⟨lg, lo, none⟩) vals.length lc) ∧ G3I w w5 vals n gb k H gv ∧ GrowI H w5 k (n k) (j + 1) (.slice a (n k) c) v' ∧ H ≤ w5.heap.size := fun wm hbm v' w5 hap => by
              obtain ⟨h1, h2, h3⟩ := growI_step HF.out HA.out HV.out HLH.out (fun b hb => by cases hb; exact Nat.lt_of_lt_of_le hlg hwH) hwH (by rw [size_alloc]; have := HHx.out; have := hbm.size; omega) HR.out (hbm.alloc (.cells #[.int .u8 0, .int .u8 0, .int .u8 0, .int .i16 0, .int .i32 (wI k ((n k : Int) + j))] 27)) hap
              obtain ⟨a', c', e⟩ := h2.form
              exact ⟨a', c', e, h1, HG.out.step HA.out HLOW.out hgb HV.out HR.out.2 h3, h2, Nat.le_trans HHx.out h3.size⟩
            have KEY := Lib.hid key
            have hbound : (marksI k (n k + j)).length + 1 ≤ 1000000000065 := by rw [marksI_len]; omega
            clear key
            go_wp2_with fail
            refine (markInstr _ _ _).mono ?_
            rintro e wm ⟨rfl, hbm⟩
            have HQ := Lib.hid (KQ.out wm hbm)
            have HSRC := Lib.hid (KS.out wm)
            have KEYM := Lib.hid (KEY.out wm hbm)
            clear hbm
            go_wp2_with (at_builtin; refine wpList_append_ins rfl _ _ 28 rfl i0 (.agg zA) 12 Tryz.underlying28 hi hz0 hz1 hz2 rfl _ (marksI k (n k + j)) rfl HQ.out [mI k ((n k : Int) + j)] _ rfl (by rw [hz1]; exact HSRC.out) (by unfold maxLen; simp only [List.length_cons, List.length_nil]; omega) (by simp only [List.length_cons, List.length_nil]; omega) ?_; intro v' w5 hap; obtain ⟨a5, c5, rfl, hF5, hG5, hR5, hH5⟩ := KEYM.out _ _ hap; have HF5 := Lib.hid hF5; have HG5 := Lib.hid hG5; have HR5 := Lib.hid hR5; have HH5 := Lib.hid hH5; clear hap hF5 hG5 hR5 hH5)
            go_roundw
            case rel => exact ⟨j + 1, by omega, by go_num, HF5.out, HG5.out, HR5.out, HH5.out⟩
            case measure => simp [intOf]; omega
          · obtain rfl : j = 64 := by omega
            have hgq := HG.out.gsq
            obtain ⟨u, hu⟩ : ∃ u, gv[k]? = some u := ⟨_, List.getElem?_eq_getElem (by rw [HG.out.len]; exact hlt)⟩
            have gc4 : wr.cell? ⟨gb, k, none⟩ = some u := by have := hgq.cellAt hu; rwa [Nat.zero_add] at this
            have gf4 : wr.frozen? ⟨gb, k, none⟩ = false := hgq.frozenAt k
            have hD := HG.out.done HF.out HLOW.out (fun b hb => by cases hb; exact hlg) hgb hwH hlt HV.out HR.out
            have HD := Lib.hid hD
            clear hgq hu hD
            go_wp2_with fail
            go_roundw
            case rel => exact ⟨k + 1, by omega, by go_num, HD.out.1, HD.out.2⟩
            case measure => simp [intOf]; omega
      · obtain rfl : k = vals.length := by omega
        go_wp2_with fail
        go_meet
        exact ⟨HF.out, HG.out⟩
  case rest =>
    obtain ⟨hF, hG⟩ := hcut
    refine (by assumption : ∀ (a : Act) (w1 : World), Code.wp Tryz.prog _ _ a w1 → _) _ _ ?_
    exact gl4 HA HN hK HLOW hlg (Lib.hid hF) hgb (Lib.hid hG)
end Go.Proofs.YtddeckkcfcodbaaGreat.M
