/-
  cell's read: the drawn statement of its round (printed by mkcread.py).
-/
import Derived.Test.YtmaeiifhmngllaaParts
import Derived.Test.YtmaeiifhmngllaaFlowIn
import Derived.Test.YtmaeiifhmngllaaRowsB
namespace Go.Proofs.Ytmaeiifhmngllaa.M
open Go.RowKit Go.Shelf
set_option linter.unusedVariables false
set_option linter.unusedSectionVars false
set_option linter.unusedSimpArgs false
attribute [local go_sem] Oper.semAt_some
theorem u8s_app (l m : List Int) : u8s (l ++ m) = u8s l ++ u8s m := by simp [u8s]
noncomputable def code_d7 : Code := ((Try.f28.body.getD .skip |> regionOf5 7).getD .skip)
set_option maxRecDepth 100000 in
set_option maxHeartbeats 4000000 in
theorem rd7 (lp N : Nat) (Q : Exit → Act → World → Prop) {wr : World} {g P k fr mn at_ on_ oc bo B : Nat} {oa : Option Addr} {S : Stk} {made : Bool} {row bs : List Int} (hmp : 0 < mn) (hfr : fr ≤ 7) (hk : k < 64) (hfm : fr + mn ≤ 8) (hol : row.length = on_) (hon : on_ ≤ 1000) (hbl : bs.length = mn) (hbs : ∀ i, i < mn → bs[i]? = some (S.byte (8 * k + (fr + i)))) (hBz : B ≤ wr.heap.size)
    (HG : Hid (wr.heap[g]? = some (.cells #[.pointer (some ⟨P, k * 13, none⟩), .int .i64 (fr : Int), .int .i64 (mn : Int), .int .i64 (at_ : Int)] 84))) (HO : Hid (wr.heap[bo]? = some (.cells #[.slice oa on_ oc] 37))) (HBL : Hid (Blk wr P 57 833 (S.val made))) (HOW : Hid (wr.ownsRow B 5 1 (.slice oa on_ oc) on_ (u8s row)))
    {u0 u1 u2 u3 u4 u5 u6 u7 u10 u11 u12 u13 u14 u15 u16 u17 u18 u19 u20 u21 u22 u23 u24 u25 u26 u27 u28 u29 u30 u31 u32 u33 u34 u35 u36 u37 u38 u39 u40 u41 u42 u43 u44 u45 u46 : Value} (hQ : ∀ (z32 z33 z34 z35 z36 z37 z38 z39 z40 z41 z42 z43 z44 z45 : Value) (w5 w6 : World) (v : Value), But [] wr w5 → w6.ownsRow B 5 1 v (on_ + mn) (u8s (row ++ bs)) → w5.grownBy w6 (Value.slice oa on_ oc).ownBlock → w6.heap[bo]? = some (.cells #[.slice oa on_ oc] 37) → Q .normal { tmps := List.toArray (u0 :: u1 :: u2 :: u3 :: u4 :: u5 :: u6 :: u7 :: .pointer (some ⟨bo, 0, none⟩) :: .pointer (some ⟨g, 0, none⟩) :: u10 :: u11 :: u12 :: u13 :: u14 :: u15 :: u16 :: u17 :: u18 :: u19 :: u20 :: u21 :: u22 :: u23 :: u24 :: u25 :: u26 :: u27 :: u28 :: u29 :: u30 :: u31 :: z32 :: z33 :: z34 :: z35 :: z36 :: z37 :: z38 :: z39 :: z40 :: z41 :: z42 :: z43 :: z44 :: z45 :: u46 :: []), defers := [] } (w6.setCell ⟨bo, 0, none⟩ v)) :
    Code.wpIn (Fence.wide.inRound lp) N Try.prog code_d7 Q { tmps := List.toArray (u0 :: u1 :: u2 :: u3 :: u4 :: u5 :: u6 :: u7 :: .pointer (some ⟨bo, 0, none⟩) :: .pointer (some ⟨g, 0, none⟩) :: u10 :: u11 :: u12 :: u13 :: u14 :: u15 :: u16 :: u17 :: u18 :: u19 :: u20 :: u21 :: u22 :: u23 :: u24 :: u25 :: u26 :: u27 :: u28 :: u29 :: u30 :: u31 :: u32 :: u33 :: u34 :: u35 :: u36 :: u37 :: u38 :: u39 :: u40 :: u41 :: u42 :: u43 :: u44 :: u45 :: u46 :: []), defers := [] } wr := by
  obtain ⟨i0, hi, hz0, hz1, hz2⟩ := info_parts (show (Try.prog.info? 5).map (fun i => (i.zero, i.size, i.bytes)) = some (some (.int .u8 0), 1, 1) by kernel_rfl)
  have HQ := Lib.hid hQ
  have HBS := Lib.hid hbs
  clear hQ hbs
  conv => arg 4; whnf
  refine wpIn_region_flow (by kernel_rfl) 13 (by decide) (by kernel_rfl) (But []) (fun _ _ _ h1 h2 => h1.trans h2 (by simp)) (⟨rfl, rfl, rfl, Nat.le_refl _, fun _ _ _ => rfl⟩) (GV [.slice oa on_ oc, .pointer (some ⟨g, 0, none⟩), .pointer (some ⟨P, k * 13, none⟩), .pointer (some ⟨P, k * 13, none⟩), .pointer (some ⟨P, k * 13 + 4, none⟩), .pointer (some ⟨g, 1, none⟩), .int .i64 (fr : Int), .pointer (some ⟨g, 1, none⟩), .int .i64 (fr : Int), .pointer (some ⟨g, 2, none⟩), .int .i64 (mn : Int), .int .i64 ((fr : Int) + mn), .slice (some ⟨P, k * 13 + 4 + fr, none⟩) mn (8 - fr)]) [[], [], [(1, 33)], [(2, 34)], [(3, 35)], [], [(5, 37)], [], [(7, 39)], [], [(9, 41)], [(8, 40), (10, 42)], [(4, 36), (6, 38), (11, 43)]] [[(8, .pointer (some ⟨bo, 0, none⟩))], [(9, .pointer (some ⟨g, 0, none⟩))], [], [], [], [(9, .pointer (some ⟨g, 0, none⟩))], [], [(9, .pointer (some ⟨g, 0, none⟩))], [], [(9, .pointer (some ⟨g, 0, none⟩))], [], [], []] (by kernel_rfl) (by kernel_rfl) (by kernel_rfl) (by kernel_rfl) ?_ (fun _ _ _ _ _ h _ => h) ?_ ?_
  · exact ⟨⟨rfl, trivial⟩, ⟨rfl, trivial⟩, trivial, trivial, trivial, ⟨rfl, trivial⟩, trivial, ⟨rfl, trivial⟩, trivial, ⟨rfl, trivial⟩, trivial, trivial, trivial, trivial⟩
  · simp only [List.take_succ_cons, List.take_zero]
    -- 32
    refine ⟨fun a9 w9 hR hk hf => ?_, ?_⟩
    · simp only [KnowF, FreeF, and_true] at hk hf
      have e8 : a9.tmps[8]?.getD undef = .pointer (some ⟨bo, 0, none⟩) := freeF_ev hf
      have f0 := cl_of (hR.heap HO.out (by simp)) 0
      simp only [List.getElem?_toArray, List.getElem?_cons_zero, List.getElem?_cons_succ] at f0
      exact flow_run (v := .slice oa on_ oc) (by go_simp) (But.refl _ _) (GV.of rfl)
    -- 33
    refine ⟨fun a9 w9 hR hk hf => ?_, ?_⟩
    · simp only [KnowF, FreeF, and_true] at hk hf
      have e9 : a9.tmps[9]?.getD undef = .pointer (some ⟨g, 0, none⟩) := freeF_ev hf
      exact flow_run (v := .pointer (some ⟨g, 0, none⟩)) (by go_simp) (But.refl _ _) (GV.of rfl)
    -- 34
    refine ⟨fun a9 w9 hR hk hf => ?_, ?_⟩
    · simp only [KnowF, FreeF, and_true] at hk hf
      have e33 := (hk).ev (v := .pointer (some ⟨g, 0, none⟩)) rfl
      have f0 := cl_of (hR.heap HG.out (by simp)) 0
      simp only [List.getElem?_toArray, List.getElem?_cons_zero, List.getElem?_cons_succ] at f0
      exact flow_run (v := .pointer (some ⟨P, k * 13, none⟩)) (by go_simp) (But.refl _ _) (GV.of rfl)
    -- 35
    refine ⟨fun a9 w9 hR hk hf => ?_, ?_⟩
    · simp only [KnowF, FreeF, and_true] at hk hf
      have e34 := (hk).ev (v := .pointer (some ⟨P, k * 13, none⟩)) rfl
      exact flow_run (v := .pointer (some ⟨P, k * 13, none⟩)) (by go_simp) (But.refl _ _) (GV.of rfl)
    -- 36
    refine ⟨fun a9 w9 hR hk hf => ?_, ?_⟩
    · simp only [KnowF, FreeF, and_true] at hk hf
      have e35 := (hk).ev (v := .pointer (some ⟨P, k * 13, none⟩)) rfl
      exact flow_run (v := .pointer (some ⟨P, k * 13 + 4, none⟩)) (by go_simp) (But.refl _ _) (GV.of rfl)
    -- 37
    refine ⟨fun a9 w9 hR hk hf => ?_, ?_⟩
    · simp only [KnowF, FreeF, and_true] at hk hf
      have e9 : a9.tmps[9]?.getD undef = .pointer (some ⟨g, 0, none⟩) := freeF_ev hf
      exact flow_run (v := .pointer (some ⟨g, 1, none⟩)) (by go_simp) (But.refl _ _) (GV.of rfl)
    -- 38
    refine ⟨fun a9 w9 hR hk hf => ?_, ?_⟩
    · simp only [KnowF, FreeF, and_true] at hk hf
      have e37 := (hk).ev (v := .pointer (some ⟨g, 1, none⟩)) rfl
      have f0 := cl_of (hR.heap HG.out (by simp)) 1
      simp only [List.getElem?_toArray, List.getElem?_cons_zero, List.getElem?_cons_succ] at f0
      exact flow_run (v := .int .i64 (fr : Int)) (by go_simp) (But.refl _ _) (GV.of rfl)
    -- 39
    refine ⟨fun a9 w9 hR hk hf => ?_, ?_⟩
    · simp only [KnowF, FreeF, and_true] at hk hf
      have e9 : a9.tmps[9]?.getD undef = .pointer (some ⟨g, 0, none⟩) := freeF_ev hf
      exact flow_run (v := .pointer (some ⟨g, 1, none⟩)) (by go_simp) (But.refl _ _) (GV.of rfl)
    -- 40
    refine ⟨fun a9 w9 hR hk hf => ?_, ?_⟩
    · simp only [KnowF, FreeF, and_true] at hk hf
      have e39 := (hk).ev (v := .pointer (some ⟨g, 1, none⟩)) rfl
      have f0 := cl_of (hR.heap HG.out (by simp)) 1
      simp only [List.getElem?_toArray, List.getElem?_cons_zero, List.getElem?_cons_succ] at f0
      exact flow_run (v := .int .i64 (fr : Int)) (by go_simp) (But.refl _ _) (GV.of rfl)
    -- 41
    refine ⟨fun a9 w9 hR hk hf => ?_, ?_⟩
    · simp only [KnowF, FreeF, and_true] at hk hf
      have e9 : a9.tmps[9]?.getD undef = .pointer (some ⟨g, 0, none⟩) := freeF_ev hf
      exact flow_run (v := .pointer (some ⟨g, 2, none⟩)) (by go_simp) (But.refl _ _) (GV.of rfl)
    -- 42
    refine ⟨fun a9 w9 hR hk hf => ?_, ?_⟩
    · simp only [KnowF, FreeF, and_true] at hk hf
      have e41 := (hk).ev (v := .pointer (some ⟨g, 2, none⟩)) rfl
      have f0 := cl_of (hR.heap HG.out (by simp)) 2
      simp only [List.getElem?_toArray, List.getElem?_cons_zero, List.getElem?_cons_succ] at f0
      exact flow_run (v := .int .i64 (mn : Int)) (by go_simp) (But.refl _ _) (GV.of rfl)
    -- 43
    refine ⟨fun a9 w9 hR hk hf => ?_, ?_⟩
    · simp only [KnowF, FreeF, and_true] at hk hf
      have e40 := (hk.1).ev (v := .int .i64 (fr : Int)) rfl
      have e42 := (hk.2).ev (v := .int .i64 (mn : Int)) rfl
      have hw : IntKind.i64.wrap ((fr : Int) + mn) = (fr : Int) + mn := by rw [IntKind.wrap_i64]; omega
      exact flow_run (v := .int .i64 ((fr : Int) + mn)) (by go_simp) (But.refl _ _) (GV.of rfl)
    -- 44
    refine ⟨fun a9 w9 hR hk hf => ?_, ?_⟩
    · simp only [KnowF, FreeF, and_true] at hk hf
      have e36 := (hk.1).ev (v := .pointer (some ⟨P, k * 13 + 4, none⟩)) rfl
      have e38 := (hk.2.1).ev (v := .int .i64 (fr : Int)) rfl
      have e43 := (hk.2.2).ev (v := .int .i64 ((fr : Int) + mn)) rfl
      have g1 : (0 : Int) ≤ fr := by omega
      have g2 : (fr : Int) ≤ (fr : Int) + mn := by omega
      have g3 : (fr : Int) + mn ≤ 8 := by omega
      have g4 : ¬ (8 = fr) := by omega
      have g5 : ((fr : Int) + mn - fr).toNat = mn := by omega
      have g6 : ((fr : Int) + mn).toNat = fr + mn := by omega
      have g7 : fr + mn - fr = mn := by omega
      exact flow_run (v := .slice (some ⟨P, k * 13 + 4 + fr, none⟩) mn (8 - fr)) (by go_simp) (But.refl _ _) (GV.of rfl)
    exact trivial
  · intro f w5 hb5 hG
    have e32 : f 32 = .slice oa on_ oc := hG 0 _ 32 (by decide) rfl rfl _ rfl
    have e44 : f 44 = .slice (some ⟨P, k * 13 + 4 + fr, none⟩) mn (8 - fr) := hG 12 _ 44 (by decide) rfl rfl _ rfl
    have HB5 := Lib.hid hb5
    have HOW5 : Hid (w5.ownsRow B 5 1 (.slice oa on_ oc) on_ (u8s row)) := Lib.hid (ownsRow_but HOW.out hb5 (by simp))
    have HO5 := Lib.hid (hb5.heap HO.out (by simp))
    have HBL5 := Lib.hid (HBL.out.but hb5 (by simp))
    have hbz5 : B ≤ w5.heap.size := Nat.le_trans hBz hb5.size
    have HSRC : Hid (∀ j u, (u8s bs)[j]? = some u → w5.cell? ((⟨P, k * 13 + 4 + fr, none⟩ : Addr).add j) = some u) := Lib.hid fun j u hj => by
      have hjl := (List.getElem?_eq_some_iff.1 hj).1
      rw [u8s_len, hbl] at hjl
      rw [add_at]
      have h := HBL5.out.cell (i := k * 13 + (4 + (fr + j))) (by omega)
      rw [val_byte _ _ hk (by omega)] at h
      unfold u8s at hj
      rw [List.getElem?_map, HBS.out j hjl] at hj
      cases hj
      rw [← h]
      congr 2
      omega
    have HK : Hid (∀ (v : Value) (w6 : World), w6.ownsRow B 5 1 v (on_ + mn) (u8s row ++ u8s bs) → w5.grownBy w6 (Value.slice oa on_ oc).ownBlock → w6.ownsRow B 5 1 v (on_ + mn) (u8s (row ++ bs)) ∧ w6.heap[bo]? = some (.cells #[.slice oa on_ oc] 37)) := Lib.hid fun v w6 h1 h2 => by
      refine ⟨by rw [u8s_app]; exact h1, ?_⟩
      refine ((But.refl (Value.slice oa on_ oc).ownBlock.toList w5).grown h2 (fun b hb => .inl (by rw [hb]; simp))).heap HO5.out (fun hm => ?_)
      obtain ⟨_, cur, hcur⟩ := ownsRow_tag HOW5.out (b := bo) (by simpa using hm)
      rw [HO5.out] at hcur
      cases hcur
    have hu1 : (u8s bs).length = mn * 1 := by rw [u8s_len, hbl, Nat.mul_one]
    have HONE : Hid (∀ v ∈ u8s bs, v.oneCell' = true) := Lib.hid fun v hv => by
      simp only [u8s, List.mem_map] at hv
      obtain ⟨n, _, rfl⟩ := hv
      rfl
    clear hG hb5
    simp only [List.drop_succ_cons, List.drop_zero]
    show wpListIn _ _ _ _ _ _ { tmps := List.toArray (u0 :: u1 :: u2 :: u3 :: u4 :: u5 :: u6 :: u7 :: .pointer (some ⟨bo, 0, none⟩) :: .pointer (some ⟨g, 0, none⟩) :: u10 :: u11 :: u12 :: u13 :: u14 :: u15 :: u16 :: u17 :: u18 :: u19 :: u20 :: u21 :: u22 :: u23 :: u24 :: u25 :: u26 :: u27 :: u28 :: u29 :: u30 :: u31 :: f 32 :: f 33 :: f 34 :: f 35 :: f 36 :: f 37 :: f 38 :: f 39 :: f 40 :: f 41 :: f 42 :: f 43 :: f 44 :: u45 :: u46 :: []), defers := [] } w5
    gi_wp2_with (gi_at_builtin; refine wpListIn_append_own _ rfl _ _ 37 rfl B 5 i0 (.int .u8 0) 1 1 Try.underlying37 hi hz0 hz1 hz2 rfl (by decide) (.slice oa on_ oc) on_ (u8s row) (by exact e32) HOW5.out ⟨P, k * 13 + 4 + fr, none⟩ mn (8 - fr) (u8s bs) (by exact e44) hu1 HSRC.out HONE.out (by unfold maxLen; omega) (by omega) hbz5 ?_; intro v' w6 hown hg _; go_must (have h := HK.out v' w6 hown hg); go_must (have hf := row_form h.1); obtain ⟨a7, c7, rfl⟩ := hf; have HOWN := Lib.hid h.1; have HGR := Lib.hid hg; have HBO := Lib.hid h.2; go_must (have c0 : w6.cell? ⟨bo, 0, none⟩ = some (.slice oa on_ oc) := cl_of h.2 0); go_must (have f0 : w6.frozen? ⟨bo, 0, none⟩ = false := by (unfold World.frozen?; rw [h.2]; simp)); clear hown hg h)
    exact HQ.out _ _ _ _ _ _ _ _ _ _ _ _ _ _ _ _ _ HB5.out HOWN.out HGR.out HBO.out
end Go.Proofs.Ytmaeiifhmngllaa.M
