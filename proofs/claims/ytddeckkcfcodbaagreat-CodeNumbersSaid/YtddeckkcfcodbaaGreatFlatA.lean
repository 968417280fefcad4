/-
  hatchwaykit.flatBytes: the walk, its last parts.
-/
import Derived.Test.YtddeckkcfcodbaaGreatFlatSp
import Derived.Deep.DeepCutAuto
import Derived.Deep.CutBlock
import Derived.BigQuiet
import Derived.Deep.QuietTactic
import Derived.StillTailTactics
namespace Go.Proofs.YtddeckkcfcodbaaGreat.M
open Go.RowKit
set_option linter.unusedVariables false
set_option linter.unusedSectionVars false
set_option linter.unusedSimpArgs false
def dropSeq : Nat → Code → Code
  | 0, c => c
  | n + 1, .seq _ c => dropSeq n c
  | _, c => c
theorem vals_at {vals : List Value} {n : Nat → Nat} {k : Nat} (HN : Hid (∀ (k : Nat) (v : Value), vals[k]? = some v → (∃ a c, v = .slice a (n k) c) ∧ n k ≤ 1000000000000)) (h : k < vals.length) : ∃ a c, vals[k]? = some (.slice a (n k) c) ∧ n k ≤ 1000000000000 := by
  obtain ⟨v, hv⟩ : ∃ v, vals[k]? = some v := ⟨_, List.getElem?_eq_getElem h⟩
  obtain ⟨⟨a, c, rfl⟩, h2⟩ := HN.out k v hv
  exact ⟨a, c, hv, h2⟩
/-- What was grown at last: each begins with its row's marks. -/
def Grown5 (w wr : World) (vals : List Value) (n : Nat → Nat) (gs : Value) (K : Nat) : Prop := ∃ gv : List Value, gv.length = vals.length ∧ OwnQ wr 22 gs gv ∧
  ∀ (j : Nat) (G v : Value), j < K → gv[j]? = some G → vals[j]? = some v → ∃ xs, GOk w.heap.size wr G v xs ∧ xs.length = n j + 64 ∧ xs.take (n j) = marks j (n j)
theorem Grown5.new {w wr w' : World} {vals : List Value} {n : Nat → Nat} {gs : Value} {K : Nat} (h : Grown5 w wr vals n gs K) (hb : But [] wr w') : Grown5 w w' vals n gs K := by
  obtain ⟨gv, h1, h2, h3⟩ := h
  exact ⟨gv, h1, h2.but hb (by simp), fun j G v hj hG hv => by
    obtain ⟨xs, h4, h5⟩ := h3 j G v hj hG hv
    exact ⟨xs, h4.new hb, h5⟩⟩
/-- What was grown at first: its row's marks, and 64 more. -/
def Grown3 (w wr : World) (vals : List Value) (n : Nat → Nat) (gs : Value) (K : Nat) : Prop := ∃ gv : List Value, gv.length = vals.length ∧ OwnQ wr 22 gs gv ∧
  ∀ (j : Nat) (G v : Value), j < K → gv[j]? = some G → vals[j]? = some v → GOk w.heap.size wr G v (marks j (n j + 64))
theorem Grown3.new {w wr w' : World} {vals : List Value} {n : Nat → Nat} {gs : Value} {K : Nat} (h : Grown3 w wr vals n gs K) (hb : But [] wr w') : Grown3 w w' vals n gs K := by
  obtain ⟨gv, h1, h2, h3⟩ := h
  exact ⟨gv, h1, h2.but hb (by simp), fun j G v hj hG hv => (h3 j G v hj hG hv).new hb⟩
noncomputable def code_fl6 : Code := dropSeq 6 (Tryz.f51.body.getD .skip)
set_option maxRecDepth 100000 in
set_option maxHeartbeats 4000000 in
theorem fl6 {w : World} {vals : List Value} {n : Nat → Nat} {lg lo lc : Nat} {gb : Nat} {w1 : World} {u1 u2 u3 u4 u6 u7 u8 u9 u10 u11 u12 u13 u14 u15 u16 u17 u18 u19 u20 u21 u22 u23 u24 u25 u26 u27 u28 u29 u30 u31 u32 u33 u34 u35 u36 u37 u38 u39 u40 u41 u42 u43 u44 u45 u46 u47 u48 u49 u50 u51 u52 u53 u54 u55 u56 u57 u58 u59 u60 u61 u62 u63 u64 u65 u66 u67 u68 u69 u70 u71 u72 u73 u74 u75 u76 u77 u78 u79 u80 u81 u82 u83 u84 u85 u86 u87 u88 u89 u90 u91 u92 u93 u94 u95 u96 u97 u98 u99 u100 u101 u102 u103 u104 u105 u106 u107 u108 u109 u110 u111 u112 u113 u114 u115 u116 u117 u118 u119 u120 u121 u122 u123 u124 u125 u126 u127 u128 u129 u130 u131 u132 u133 u134 u135 u136 u137 u138 u139 u140 u141 u142 u143 u144 u145 u146 u147 u148 u149 u150 u151 u152 u153 u154 u155 u156 u157 u158 u159 u160 u161 u162 u163 u164 u165 u166 u167 u168 u169 u170 u171 u172 u173 u174 u175 u176 u177 u178 u179 u180 u181 u182 u183 u184 u185 u186 u187 u188 u189 u190 u191 u192 : Value} (HA : Hid (ApartV vals)) (HN : Hid (∀ (k : Nat) (v : Value), vals[k]? = some v → (∃ a c, v = .slice a (n k) c) ∧ n k ≤ 1000000000000)) (hK : vals.length ≤ 1000000) (HLOW : Hid (∀ (k : Nat) (v : Value) (b : Nat), vals[k]? = some v → v.ownBlock = some b → b < w.heap.size)) (hlg : lg < w.heap.size) (HF : Hid (FS w w1 vals n (.slice (some ⟨lg, lo, none⟩) vals.length lc))) (HG : Hid (Grown5 w w1 vals n (.slice (some ⟨gb, 0, none⟩) vals.length vals.length) vals.length)) :
    Code.wp Tryz.prog code_fl6 (bodyPost Tryz.prog Tryz.f51 fun e w' => e = .returned (.bool true) ∧ But (blks vals) w w') { tmps := List.toArray (.slice (some ⟨lg, lo, none⟩) vals.length lc :: u1 :: u2 :: u3 :: u4 :: .slice (some ⟨gb, 0, none⟩) vals.length vals.length :: u6 :: u7 :: u8 :: u9 :: u10 :: u11 :: u12 :: u13 :: u14 :: u15 :: u16 :: u17 :: u18 :: u19 :: u20 :: u21 :: u22 :: u23 :: u24 :: u25 :: u26 :: u27 :: u28 :: u29 :: u30 :: u31 :: u32 :: u33 :: u34 :: u35 :: u36 :: u37 :: u38 :: u39 :: u40 :: u41 :: u42 :: u43 :: u44 :: u45 :: u46 :: u47 :: u48 :: u49 :: u50 :: u51 :: u52 :: u53 :: u54 :: u55 :: u56 :: u57 :: u58 :: u59 :: u60 :: u61 :: u62 :: u63 :: u64 :: u65 :: u66 :: u67 :: u68 :: u69 :: u70 :: u71 :: u72 :: u73 :: u74 :: u75 :: u76 :: u77 :: u78 :: u79 :: u80 :: u81 :: u82 :: u83 :: u84 :: u85 :: u86 :: u87 :: u88 :: u89 :: u90 :: u91 :: u92 :: u93 :: u94 :: u95 :: u96 :: u97 :: u98 :: u99 :: u100 :: u101 :: u102 :: u103 :: u104 :: u105 :: u106 :: u107 :: u108 :: u109 :: u110 :: u111 :: u112 :: u113 :: u114 :: u115 :: u116 :: u117 :: u118 :: u119 :: u120 :: u121 :: u122 :: u123 :: u124 :: u125 :: u126 :: u127 :: u128 :: u129 :: u130 :: u131 :: u132 :: u133 :: u134 :: u135 :: u136 :: u137 :: u138 :: u139 :: u140 :: u141 :: u142 :: u143 :: u144 :: u145 :: u146 :: u147 :: u148 :: u149 :: u150 :: u151 :: u152 :: u153 :: u154 :: u155 :: u156 :: u157 :: u158 :: u159 :: u160 :: u161 :: u162 :: u163 :: u164 :: u165 :: u166 :: u167 :: u168 :: u169 :: u170 :: u171 :: u172 :: u173 :: u174 :: u175 :: u176 :: u177 :: u178 :: u179 :: u180 :: u181 :: u182 :: u183 :: u184 :: u185 :: u186 :: u187 :: u188 :: u189 :: u190 :: u191 :: u192 :: []), defers := [] } w1 := by
  conv => arg 2; whnf
  go_wp2_with fail
  go_loopw [14] (fun i wr => ∃ k : Nat, k ≤ vals.length ∧ i = .int .i64 k ∧ But [] w1 wr) (fun i _ => vals.length - (intOf i).toNat)
  case atStart => exact ⟨0, Nat.zero_le _, rfl, But.refl _ _⟩
  case round =>
    obtain ⟨k, hk, rfl, hb⟩ := hrel
    have HB := Lib.hid hb
    clear hb
    by_cases hlt : k < vals.length
    · obtain ⟨a, c, hv, hnk⟩ := vals_at HN hlt
      obtain ⟨gv, hgl, hgq, hgr⟩ := HG.out
      obtain ⟨G, hG⟩ : ∃ G, gv[k]? = some G := ⟨_, List.getElem?_eq_getElem (by omega)⟩
      obtain ⟨xs, hgo, hxl, hxt⟩ := hgr k G _ hlt hG hv
      obtain ⟨ag, cg, eg⟩ := hgo.1.form
      rw [hxl] at eg
      subst eg
      obtain ⟨gg, go, rfl⟩ := hgo.1.addr (by omega)
      have hk0 : (0 : Int) ≤ k := by omega
      have hk1 : (k : Int) < vals.length := by omega
      have lc1 : w1.cell? ⟨lg, lo + k, none⟩ = some (.slice a (n k) c) := HF.out.lsq.cellAt hv
      have gc1 : w1.cell? ⟨gb, k, none⟩ = some (.slice (some ⟨gg, go, none⟩) (n k + 64) cg) := by have := hgq.cellAt hG; rwa [Nat.zero_add] at this
      obtain ⟨wo, hwo⟩ : ∃ wo : World, wo = wr := ⟨_, rfl⟩
      have lc2 : wr.cell? ⟨lg, lo + k, none⟩ = some (.slice a (n k) c) := cell_but HB.out lc1 (by simp)
      have HV := Lib.hid hv
      have HGO := Lib.hid hgo
      have HXT := Lib.hid hxt
      have HXL := Lib.hid hxl
      have HL1 := Lib.hid lc1
      have HG1 := Lib.hid gc1
      clear hv hgl hgq hgr hG hgo hxl hxt lc1 gc1 hwo
      go_wp2_with fail
      go_loopw [15] (fun i wx => ∃ j : Nat, j ≤ n k ∧ i = .int .i64 j ∧ But [] w1 wx) (fun i _ => n k - (intOf i).toNat)
      case atStart => exact ⟨0, Nat.zero_le _, rfl, HB.out⟩
      case round =>
        obtain ⟨j, hj, rfl, hbx⟩ := hrel
        have lc3 : wr.cell? ⟨lg, lo + k, none⟩ = some (.slice a (n k) c) := cell_but hbx HL1.out (by simp)
        have gc3 : wr.cell? ⟨gb, k, none⟩ = some (.slice (some ⟨gg, go, none⟩) (n k + 64) cg) := cell_but hbx HG1.out (by simp)
        have HBX := Lib.hid hbx
        by_cases hjl : j < n k
        · obtain ⟨g, o, rfl⟩ := (HF.out.rows k _ HV.out).addr (by omega)
          have r1 : wr.cell? ⟨g, o + j, none⟩ = some (.int .u8 (mb k j)) := cell_but hbx ((HF.out.rows k _ HV.out).cellAt (marks_at hjl)) (by simp)
          have r2 : wr.cell? ⟨gg, go + j, none⟩ = some (.int .u8 (mb k j)) := cell_but hbx (HGO.out.1.cellAt (by
            have h := marks_at (k := k) hjl
            rw [← HXT.out, List.getElem?_take_of_lt hjl] at h
            exact h)) (by simp)
          have hj0 : (0 : Int) ≤ j := by omega
          have hj1 : (j : Int) < n k := by omega
          have hj2 : (j : Int) < (n k : Int) + 64 := by omega
          have hj3 : j < n k + 64 := by omega
          clear hbx
          go_wp2_with fail
          go_quiet ((go_at_call 43; exact Calls.quiet_of_same (markB' _ _ _)))
          go_wp2_with fail
          go_roundw
          case rel => exact ⟨j + 1, by omega, by go_num, HBX.out.drewN _⟩
          case measure => simp [intOf]; omega
        · obtain rfl : j = n k := by omega
          go_wp2_with fail
          go_roundw
          case rel => exact ⟨k + 1, by omega, by go_num, HBX.out⟩
          case measure => simp [intOf]; omega
    · obtain rfl : k = vals.length := by omega
      go_wp2_with fail
      go_ret
      exact ⟨rfl, HF.out.but.trans HB.out (by simp)⟩
end Go.Proofs.YtddeckkcfcodbaaGreat.M
