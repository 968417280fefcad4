/-
  cell's write: the drawn statement of its round (printed by mkcwrite.py).
-/
import Derived.Test.YtmaeiifhmngllaaParts
import Derived.Test.YtmaeiifhmngllaaFlowIn
namespace Go.Proofs.Ytmaeiifhmngllaa.M
open Go.RowKit Go.Shelf
set_option linter.unusedVariables false
set_option linter.unusedSectionVars false
set_option linter.unusedSimpArgs false
attribute [local go_sem] Oper.semAt_some
noncomputable def code_w3 : Code := ((Try.f34.body.getD .skip |> regionOf5 3).getD .skip)
set_option maxRecDepth 100000 in
set_option maxHeartbeats 4000000 in
theorem rw3 (lp N : Nat) (Q : Exit → Act → World → Prop) {wr : World} {g P k fr mn at_ ab ao n c bb : Nat} {S : Stk} {made : Bool} {bs : List Int} (hat : at_ + mn ≤ n) (hnc : n ≤ c) (hmp : 0 < mn) (hn5 : n ≤ 512) (hfr : fr ≤ 7) (hk : k < 64) (hfm : fr + mn ≤ 8) (hbl : bs.length = mn)
    (HG : Hid (wr.heap[g]? = some (.cells #[.pointer (some ⟨P, k * 13, none⟩), .int .i64 (fr : Int), .int .i64 (mn : Int), .int .i64 (at_ : Int)] 84))) (HB : Hid (wr.cell? ⟨bb, 0, none⟩ = some (.slice (some ⟨ab, ao, none⟩) n c))) (HBL : Hid (Blk wr P 57 833 (S.val made))) (HS : Hid (Sees wr (.slice (some ⟨ab, ao + at_, none⟩) mn (c - at_)) (u8s bs))) (hab : ab ≠ P)
    {u0 u1 u2 u3 u4 u7 u8 u9 u10 u11 u12 u13 u14 u15 u16 u17 u18 u19 u20 u21 u22 u23 u24 u25 u26 : Value} (hQ : ∀ (z13 z14 z15 z16 z17 z18 z19 z20 z21 z22 z23 z24 z25 z26 : Value) (w5 : World), But [P] wr w5 → Blk w5 P 57 833 ((putG S k fr bs).val made) → Q .normal { tmps := List.toArray (u0 :: u1 :: u2 :: u3 :: u4 :: .pointer (some ⟨bb, 0, none⟩) :: .pointer (some ⟨g, 0, none⟩) :: u7 :: u8 :: u9 :: u10 :: u11 :: u12 :: z13 :: z14 :: z15 :: z16 :: z17 :: z18 :: z19 :: z20 :: z21 :: z22 :: z23 :: z24 :: z25 :: z26 :: []), defers := [] } w5) :
    Code.wpIn (Fence.wide.inRound lp) N Try.prog code_w3 Q { tmps := List.toArray (u0 :: u1 :: u2 :: u3 :: u4 :: .pointer (some ⟨bb, 0, none⟩) :: .pointer (some ⟨g, 0, none⟩) :: u7 :: u8 :: u9 :: u10 :: u11 :: u12 :: u13 :: u14 :: u15 :: u16 :: u17 :: u18 :: u19 :: u20 :: u21 :: u22 :: u23 :: u24 :: u25 :: u26 :: []), defers := [] } wr := by
  have HQ := Lib.hid hQ
  clear hQ
  conv => arg 4; whnf
  refine wpIn_region_flow (by kernel_rfl) 13 (by decide) (by kernel_rfl) (But []) (fun _ _ _ h1 h2 => h1.trans h2 (by simp)) (⟨rfl, rfl, rfl, Nat.le_refl _, fun _ _ _ => rfl⟩) (GV [.pointer (some ⟨g, 0, none⟩), .pointer (some ⟨P, k * 13, none⟩), .pointer (some ⟨g, 1, none⟩), .int .i64 (fr : Int), .slice (some ⟨ab, ao, none⟩) n c, .pointer (some ⟨g, 3, none⟩), .int .i64 (at_ : Int), .pointer (some ⟨g, 3, none⟩), .int .i64 (at_ : Int), .pointer (some ⟨g, 2, none⟩), .int .i64 (mn : Int), .int .i64 ((at_ : Int) + mn), .slice (some ⟨ab, ao + at_, none⟩) mn (c - at_)]) [[], [(0, 13)], [], [(2, 15)], [], [], [(5, 18)], [], [(7, 20)], [], [(9, 22)], [(8, 21), (10, 23)], [(4, 17), (6, 19), (11, 24)]] [[(6, .pointer (some ⟨g, 0, none⟩))], [], [(6, .pointer (some ⟨g, 0, none⟩))], [], [(5, .pointer (some ⟨bb, 0, none⟩))], [(6, .pointer (some ⟨g, 0, none⟩))], [], [(6, .pointer (some ⟨g, 0, none⟩))], [], [(6, .pointer (some ⟨g, 0, none⟩))], [], [], []] (by kernel_rfl) (by kernel_rfl) (by kernel_rfl) (by kernel_rfl) ?_ (fun _ _ _ _ _ h _ => h) ?_ ?_
  · exact ⟨⟨rfl, trivial⟩, trivial, ⟨rfl, trivial⟩, trivial, ⟨rfl, trivial⟩, ⟨rfl, trivial⟩, trivial, ⟨rfl, trivial⟩, trivial, ⟨rfl, trivial⟩, trivial, trivial, trivial, trivial⟩
  · simp only [List.take_succ_cons, List.take_zero]
    -- 13
    refine ⟨fun a9 w9 hR hk hf => ?_, ?_⟩
    · simp only [KnowF, FreeF, and_true] at hk hf
      have e6 : a9.tmps[6]?.getD undef = .pointer (some ⟨g, 0, none⟩) := freeF_ev hf
      exact flow_run (v := .pointer (some ⟨g, 0, none⟩)) (by go_simp) (But.refl _ _) (GV.of rfl)
    -- 14
    refine ⟨fun a9 w9 hR hk hf => ?_, ?_⟩
    · simp only [KnowF, FreeF, and_true] at hk hf
      have e13 := (hk).ev (v := .pointer (some ⟨g, 0, none⟩)) rfl
      have f0 := cl_of (hR.heap HG.out (by simp)) 0
      simp only [List.getElem?_toArray, List.getElem?_cons_zero, List.getElem?_cons_succ] at f0
      exact flow_run (v := .pointer (some ⟨P, k * 13, none⟩)) (by go_simp) (But.refl _ _) (GV.of rfl)
    -- 15
    refine ⟨fun a9 w9 hR hk hf => ?_, ?_⟩
    · simp only [KnowF, FreeF, and_true] at hk hf
      have e6 : a9.tmps[6]?.getD undef = .pointer (some ⟨g, 0, none⟩) := freeF_ev hf
      exact flow_run (v := .pointer (some ⟨g, 1, none⟩)) (by go_simp) (But.refl _ _) (GV.of rfl)
    -- 16
    refine ⟨fun a9 w9 hR hk hf => ?_, ?_⟩
    · simp only [KnowF, FreeF, and_true] at hk hf
      have e15 := (hk).ev (v := .pointer (some ⟨g, 1, none⟩)) rfl
      have f0 := cl_of (hR.heap HG.out (by simp)) 1
      simp only [List.getElem?_toArray, List.getElem?_cons_zero, List.getElem?_cons_succ] at f0
      exact flow_run (v := .int .i64 (fr : Int)) (by go_simp) (But.refl _ _) (GV.of rfl)
    -- 17
    refine ⟨fun a9 w9 hR hk hf => ?_, ?_⟩
    · simp only [KnowF, FreeF, and_true] at hk hf
      have e5 : a9.tmps[5]?.getD undef = .pointer (some ⟨bb, 0, none⟩) := freeF_ev hf
      have f0 := cell_but hR HB.out (by simp)
      exact flow_run (v := .slice (some ⟨ab, ao, none⟩) n c) (by go_simp) (But.refl _ _) (GV.of rfl)
    -- 18
    refine ⟨fun a9 w9 hR hk hf => ?_, ?_⟩
    · simp only [KnowF, FreeF, and_true] at hk hf
      have e6 : a9.tmps[6]?.getD undef = .pointer (some ⟨g, 0, none⟩) := freeF_ev hf
      exact flow_run (v := .pointer (some ⟨g, 3, none⟩)) (by go_simp) (But.refl _ _) (GV.of rfl)
    -- 19
    refine ⟨fun a9 w9 hR hk hf => ?_, ?_⟩
    · simp only [KnowF, FreeF, and_true] at hk hf
      have e18 := (hk).ev (v := .pointer (some ⟨g, 3, none⟩)) rfl
      have f0 := cl_of (hR.heap HG.out (by simp)) 3
      simp only [List.getElem?_toArray, List.getElem?_cons_zero, List.getElem?_cons_succ] at f0
      exact flow_run (v := .int .i64 (at_ : Int)) (by go_simp) (But.refl _ _) (GV.of rfl)
    -- 20
    refine ⟨fun a9 w9 hR hk hf => ?_, ?_⟩
    · simp only [KnowF, FreeF, and_true] at hk hf
      have e6 : a9.tmps[6]?.getD undef = .pointer (some ⟨g, 0, none⟩) := freeF_ev hf
      exact flow_run (v := .pointer (some ⟨g, 3, none⟩)) (by go_simp) (But.refl _ _) (GV.of rfl)
    -- 21
    refine ⟨fun a9 w9 hR hk hf => ?_, ?_⟩
    · simp only [KnowF, FreeF, and_true] at hk hf
      have e20 := (hk).ev (v := .pointer (some ⟨g, 3, none⟩)) rfl
      have f0 := cl_of (hR.heap HG.out (by simp)) 3
      simp only [List.getElem?_toArray, List.getElem?_cons_zero, List.getElem?_cons_succ] at f0
      exact flow_run (v := .int .i64 (at_ : Int)) (by go_simp) (But.refl _ _) (GV.of rfl)
    -- 22
    refine ⟨fun a9 w9 hR hk hf => ?_, ?_⟩
    · simp only [KnowF, FreeF, and_true] at hk hf
      have e6 : a9.tmps[6]?.getD undef = .pointer (some ⟨g, 0, none⟩) := freeF_ev hf
      exact flow_run (v := .pointer (some ⟨g, 2, none⟩)) (by go_simp) (But.refl _ _) (GV.of rfl)
    -- 23
    refine ⟨fun a9 w9 hR hk hf => ?_, ?_⟩
    · simp only [KnowF, FreeF, and_true] at hk hf
      have e22 := (hk).ev (v := .pointer (some ⟨g, 2, none⟩)) rfl
      have f0 := cl_of (hR.heap HG.out (by simp)) 2
      simp only [List.getElem?_toArray, List.getElem?_cons_zero, List.getElem?_cons_succ] at f0
      exact flow_run (v := .int .i64 (mn : Int)) (by go_simp) (But.refl _ _) (GV.of rfl)
    -- 24
    refine ⟨fun a9 w9 hR hk hf => ?_, ?_⟩
    · simp only [KnowF, FreeF, and_true] at hk hf
      have e21 := (hk.1).ev (v := .int .i64 (at_ : Int)) rfl
      have e23 := (hk.2).ev (v := .int .i64 (mn : Int)) rfl
      have hw : IntKind.i64.wrap ((at_ : Int) + mn) = (at_ : Int) + mn := by rw [IntKind.wrap_i64]; omega
      exact flow_run (v := .int .i64 ((at_ : Int) + mn)) (by go_simp) (But.refl _ _) (GV.of rfl)
    -- 25
    refine ⟨fun a9 w9 hR hk hf => ?_, ?_⟩
    · simp only [KnowF, FreeF, and_true] at hk hf
      have e17 := (hk.1).ev (v := .slice (some ⟨ab, ao, none⟩) n c) rfl
      have e19 := (hk.2.1).ev (v := .int .i64 (at_ : Int)) rfl
      have e24 := (hk.2.2).ev (v := .int .i64 ((at_ : Int) + mn)) rfl
      have g1 : (0 : Int) ≤ at_ := by omega
      have g2 : (at_ : Int) ≤ (at_ : Int) + mn := by omega
      have g3 : (at_ : Int) + mn ≤ c := by omega
      have g4 : ¬ (c = at_) := by omega
      have g5 : ((at_ : Int) + mn - at_).toNat = mn := by omega
      have g6 : ((at_ : Int) + mn).toNat = at_ + mn := by omega
      have g7 : at_ + mn - at_ = mn := by omega
      exact flow_run (v := .slice (some ⟨ab, ao + at_, none⟩) mn (c - at_)) (by go_simp) (But.refl _ _) (GV.of rfl)
    exact trivial
  · intro f w5 hb5 hG
    have e14 : f 14 = .pointer (some ⟨P, k * 13, none⟩) := hG 1 _ 14 (by decide) rfl rfl _ rfl
    have e16 : f 16 = .int .i64 (fr : Int) := hG 3 _ 16 (by decide) rfl rfl _ rfl
    have e25 : f 25 = .slice (some ⟨ab, ao + at_, none⟩) mn (c - at_) := hG 12 _ 25 (by decide) rfl rfl _ rfl
    have HB5 := Lib.hid hb5
    have hput := put_c P k fr S made (some ⟨ab, ao + at_, none⟩) (c - at_) bs w5 hk hfr (by omega) (HBL.out.but hb5 (by simp)) (by rw [hbl]; exact HS.out.but hb5 (by simp)) (fun ad h => by cases h; exact hab)
    rw [hbl] at hput
    have HP := Lib.hid hput
    clear hG hb5 hput
    simp only [List.drop_succ_cons, List.drop_zero]
    show wpListIn _ _ _ _ _ _ { tmps := List.toArray (u0 :: u1 :: u2 :: u3 :: u4 :: .pointer (some ⟨bb, 0, none⟩) :: .pointer (some ⟨g, 0, none⟩) :: u7 :: u8 :: u9 :: u10 :: u11 :: u12 :: f 13 :: f 14 :: f 15 :: f 16 :: f 17 :: f 18 :: f 19 :: f 20 :: f 21 :: f 22 :: f 23 :: f 24 :: f 25 :: u26 :: []), defers := [] } w5
    gi_wp2
    refine ⟨trivial, fun hd => by simp [Fence.wide] at hd, ?_⟩
    refine (calls_round HP.out).mono ?_
    rintro e w6 ⟨rfl, hB6, hb6⟩
    have HB6 := Lib.hid ((HB5.out.mono (M := [P]) (by simp)).trans hb6 (fun x hx => .inl hx))
    have HK6 := Lib.hid hB6
    clear hB6 hb6
    gi_wp2
    exact HQ.out _ _ _ _ _ _ _ _ _ _ _ _ _ _ _ HB6.out HK6.out
end Go.Proofs.Ytmaeiifhmngllaa.M
