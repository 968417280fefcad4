/-
  awake's last statement (printed by mkcawake.py).
-/
import Derived.Test.YtmaeiifhmngllaaNew
import Derived.Test.YtmaeiifhmngllaaFlowG
namespace Go.Proofs.Ytmaeiifhmngllaa.M
open Go.RowKit Go.Shelf
set_option linter.unusedVariables false
set_option linter.unusedSectionVars false
set_option linter.unusedSimpArgs false
noncomputable def code_aw6 : Code := ((Try.f8.body.getD .skip |> regionOf5 6).getD .skip)
set_option maxRecDepth 100000 in
set_option maxHeartbeats 8000000 in
theorem aw6 (Q : Exit → Act → World → Prop) {wr : World} {b4 : Nat} (HC : Hid (wr.heap[b4]? = some (.cells #[.int .u8 1, .int .u64 7, .int .i64 0, .int .i64 0] 33))) {u0 u1 u6 u8 u9 u10 u11 u12 u13 u14 u15 u16 u17 u18 u19 u20 u21 u22 u23 u24 u25 u26 u27 u28 u29 u30 u31 u32 u33 u34 u35 u36 u37 u38 u39 u40 u41 u42 u43 : Value} (hQ : ∀ (z25 z26 z27 z28 z29 z30 z31 z32 z33 z34 z35 z36 z37 z38 z39 z40 z41 z42 z43 : Value) (w5 : World), But [] wr w5 → Q .normal { tmps := List.toArray (.bool true :: u1 :: .int .i64 0 :: .int .i64 0 :: .pointer (some ⟨b4, 0, none⟩) :: .int .i64 0 :: u6 :: .int .i64 30 :: u8 :: u9 :: u10 :: u11 :: u12 :: u13 :: u14 :: u15 :: u16 :: u17 :: u18 :: u19 :: u20 :: u21 :: u22 :: u23 :: u24 :: z25 :: z26 :: z27 :: z28 :: z29 :: z30 :: z31 :: z32 :: z33 :: z34 :: z35 :: z36 :: z37 :: z38 :: z39 :: z40 :: z41 :: z42 :: z43 :: []), defers := [] } w5) :
    Code.wp Try.prog code_aw6 Q { tmps := List.toArray (u0 :: u1 :: .int .i64 0 :: .int .i64 0 :: .pointer (some ⟨b4, 0, none⟩) :: .int .i64 0 :: u6 :: .int .i64 30 :: u8 :: u9 :: u10 :: u11 :: u12 :: u13 :: u14 :: u15 :: u16 :: u17 :: u18 :: u19 :: u20 :: u21 :: u22 :: u23 :: u24 :: u25 :: u26 :: u27 :: u28 :: u29 :: u30 :: u31 :: u32 :: u33 :: u34 :: u35 :: u36 :: u37 :: u38 :: u39 :: u40 :: u41 :: u42 :: u43 :: []), defers := [] } wr := by
  have HQ := Lib.hid hQ
  clear hQ
  conv => arg 2; whnf
  refine wp_region_flowS 19 (by decide) (by kernel_rfl) (But []) (fun _ _ _ h1 h2 => h1.trans h2 (by simp)) (⟨rfl, rfl, rfl, Nat.le_refl _, fun _ _ _ => rfl⟩) (GV [.int .i64 0, .bool true, .bool true, .int .i64 0, .bool true, .bool true, .bool true, .int .i64 0, .bool true, .bool true, .bool true, .agg #[.int .u8 1, .int .u64 7, .int .i64 0, .int .i64 0], .agg #[.int .u8 1, .int .u64 7, .int .i64 0, .int .i64 0], .bool true, .bool true, .bool true, .int .i64 30, .bool true, .bool true]) [[], [(0, 25)], [(1, 26)], [(2, 27)], [(2, 27), (3, 28)], [(2, 27), (4, 29)], [(5, 30)], [(6, 31)], [(6, 31), (7, 32)], [(6, 31), (8, 33)], [(9, 34)], [(10, 35)], [(10, 35)], [(10, 35), (11, 36), (12, 37)], [(10, 35), (13, 38)], [(14, 39)], [(15, 40)], [(15, 40), (16, 41)], [(15, 40), (17, 42)]] [[(2, .int .i64 0)], [], [], [(3, .int .i64 0)], [], [], [], [(5, .int .i64 0)], [], [], [], [(4, .pointer (some ⟨b4, 0, none⟩))], [], [], [], [], [(7, .int .i64 30)], [], []] (by kernel_rfl) (by kernel_rfl) (by kernel_rfl) (by kernel_rfl) ?_ (fun _ _ _ _ _ h _ => h) [none, none, none, none, none, none, none, none, none, none, none, none, none, none, none, none, none, none, none, none, none, none, none, none, none, some 25, some 26, some 27, some 28, some 29, some 30, some 31, some 32, some 33, some 34, some 35, some 36, some 37, some 38, some 39, some 40, some 41, some 42, some 43] (by kernel_rfl) (by rfl) ?_ ?_
  · exact ⟨⟨rfl, trivial⟩, trivial, trivial, ⟨rfl, trivial⟩, trivial, trivial, trivial, ⟨rfl, trivial⟩, trivial, trivial, trivial, ⟨rfl, trivial⟩, trivial, trivial, trivial, trivial, ⟨rfl, trivial⟩, trivial, trivial, trivial⟩
  · simp only [List.take_succ_cons, List.take_zero]
    -- 25
    refine ⟨fun a9 w9 hR hk hf => ?_, ?_⟩
    · simp only [KnowF, FreeF, and_true] at hk hf
      have e2 : a9.tmps[2]?.getD undef = .int .i64 0 := freeF_ev hf
      exact flow_on (rfl) (flow_run (v := .int .i64 0) (by go_simp) (But.refl _ _) (GV.of rfl))
    -- 26
    refine ⟨fun a9 w9 hR hk hf => ?_, ?_⟩
    · simp only [KnowF, FreeF, and_true] at hk hf
      have e25 := (hk).ev (v := .int .i64 0) rfl
      exact flow_on (rfl) (flow_run (v := .bool true) (by go_simp) (But.refl _ _) (GV.of rfl))
    -- 27
    refine ⟨fun a9 w9 hR hk hf => ?_, ?_⟩
    · simp only [KnowF, FreeF, and_true] at hk hf
      have e26 := (hk).ev (v := .bool true) rfl
      exact flow_on (rfl) (flow_run (v := .bool true) (by go_simp) (But.refl _ _) (GV.of rfl))
    -- 28
    refine ⟨fun a9 w9 hR hk hf => ?_, ?_⟩
    · simp only [KnowF, FreeF, and_true] at hk hf
      have hgd := (hk).eval (v := .bool true) rfl
      have e3 : a9.tmps[3]?.getD undef = .int .i64 0 := freeF_ev hf
      exact flow_on (wanted_at (j := 2) (b := true) (s := 27) rfl rfl hgd) (flow_run (v := .int .i64 0) (by go_simp) (But.refl _ _) (GV.of rfl))
    -- 29
    refine ⟨fun a9 w9 hR hk hf => ?_, ?_⟩
    · simp only [KnowF, FreeF, and_true] at hk hf
      have hgd := (hk.1).eval (v := .bool true) rfl
      have e28 := (hk.2).ev (v := .int .i64 0) rfl
      exact flow_on (wanted_at (j := 2) (b := true) (s := 27) rfl rfl hgd) (flow_run (v := .bool true) (by go_simp) (But.refl _ _) (GV.of rfl))
    -- 30
    refine ⟨fun a9 w9 hR hk hf => ?_, ?_⟩
    · simp only [KnowF, FreeF, and_true] at hk hf
      have e27 := (hk.1).ev (v := .bool true) rfl
      have e29 := (hk.2).ev (v := .bool true) rfl
      exact flow_on (rfl) (flow_run (v := .bool true) (by go_simp) (But.refl _ _) (GV.of rfl))
    -- 31
    refine ⟨fun a9 w9 hR hk hf => ?_, ?_⟩
    · simp only [KnowF, FreeF, and_true] at hk hf
      have e30 := (hk).ev (v := .bool true) rfl
      exact flow_on (rfl) (flow_run (v := .bool true) (by go_simp) (But.refl _ _) (GV.of rfl))
    -- 32
    refine ⟨fun a9 w9 hR hk hf => ?_, ?_⟩
    · simp only [KnowF, FreeF, and_true] at hk hf
      have hgd := (hk).eval (v := .bool true) rfl
      have e5 : a9.tmps[5]?.getD undef = .int .i64 0 := freeF_ev hf
      exact flow_on (wanted_at (j := 6) (b := true) (s := 31) rfl rfl hgd) (flow_run (v := .int .i64 0) (by go_simp) (But.refl _ _) (GV.of rfl))
    -- 33
    refine ⟨fun a9 w9 hR hk hf => ?_, ?_⟩
    · simp only [KnowF, FreeF, and_true] at hk hf
      have hgd := (hk.1).eval (v := .bool true) rfl
      have e32 := (hk.2).ev (v := .int .i64 0) rfl
      exact flow_on (wanted_at (j := 6) (b := true) (s := 31) rfl rfl hgd) (flow_run (v := .bool true) (by go_simp) (But.refl _ _) (GV.of rfl))
    -- 34
    refine ⟨fun a9 w9 hR hk hf => ?_, ?_⟩
    · simp only [KnowF, FreeF, and_true] at hk hf
      have e31 := (hk.1).ev (v := .bool true) rfl
      have e33 := (hk.2).ev (v := .bool true) rfl
      exact flow_on (rfl) (flow_run (v := .bool true) (by go_simp) (But.refl _ _) (GV.of rfl))
    -- 35
    refine ⟨fun a9 w9 hR hk hf => ?_, ?_⟩
    · simp only [KnowF, FreeF, and_true] at hk hf
      have e34 := (hk).ev (v := .bool true) rfl
      exact flow_on (rfl) (flow_run (v := .bool true) (by go_simp) (But.refl _ _) (GV.of rfl))
    -- 36
    refine ⟨fun a9 w9 hR hk hf => ?_, ?_⟩
    · simp only [KnowF, FreeF, and_true] at hk hf
      have hgd := (hk).eval (v := .bool true) rfl
      have e4 : a9.tmps[4]?.getD undef = .pointer (some ⟨b4, 0, none⟩) := freeF_ev hf
      have hh := hR.heap HC.out (by simp)
      have f0 := cl_of hh 0
      have f1 := cl_of hh 1
      have f2 := cl_of hh 2
      have f3 := cl_of hh 3
      simp only [List.getElem?_toArray, List.getElem?_cons_zero, List.getElem?_cons_succ] at f0 f1 f2 f3
      clear hh
      exact flow_on (wanted_at (j := 10) (b := true) (s := 35) rfl rfl hgd) (flow_run (v := .agg #[.int .u8 1, .int .u64 7, .int .i64 0, .int .i64 0]) (by go_simp) (But.refl _ _) (GV.of rfl))
    -- 37
    refine ⟨fun a9 w9 hR hk hf => ?_, ?_⟩
    · simp only [KnowF, FreeF, and_true] at hk hf
      have hgd := (hk).eval (v := .bool true) rfl
      exact flow_on (wanted_at (j := 10) (b := true) (s := 35) rfl rfl hgd) (flow_call (f := 24) (args := #[.int .u64 7]) (by go_simp) ((word_c 7 _).mono (by rintro e w' ⟨rfl, hb⟩; exact ⟨_, rfl, hb, GV.of rfl⟩)))
    -- 38
    refine ⟨fun a9 w9 hR hk hf => ?_, ?_⟩
    · simp only [KnowF, FreeF, and_true] at hk hf
      have hgd := (hk.1).eval (v := .bool true) rfl
      have e36 := (hk.2.1).ev (v := .agg #[.int .u8 1, .int .u64 7, .int .i64 0, .int .i64 0]) rfl
      have e37 := (hk.2.2).ev (v := .agg #[.int .u8 1, .int .u64 7, .int .i64 0, .int .i64 0]) rfl
      exact flow_on (wanted_at (j := 10) (b := true) (s := 35) rfl rfl hgd) (flow_run (v := .bool true) (by go_simp) (But.refl _ _) (GV.of rfl))
    -- 39
    refine ⟨fun a9 w9 hR hk hf => ?_, ?_⟩
    · simp only [KnowF, FreeF, and_true] at hk hf
      have e35 := (hk.1).ev (v := .bool true) rfl
      have e38 := (hk.2).ev (v := .bool true) rfl
      exact flow_on (rfl) (flow_run (v := .bool true) (by go_simp) (But.refl _ _) (GV.of rfl))
    -- 40
    refine ⟨fun a9 w9 hR hk hf => ?_, ?_⟩
    · simp only [KnowF, FreeF, and_true] at hk hf
      have e39 := (hk).ev (v := .bool true) rfl
      exact flow_on (rfl) (flow_run (v := .bool true) (by go_simp) (But.refl _ _) (GV.of rfl))
    -- 41
    refine ⟨fun a9 w9 hR hk hf => ?_, ?_⟩
    · simp only [KnowF, FreeF, and_true] at hk hf
      have hgd := (hk).eval (v := .bool true) rfl
      have e7 : a9.tmps[7]?.getD undef = .int .i64 30 := freeF_ev hf
      exact flow_on (wanted_at (j := 15) (b := true) (s := 40) rfl rfl hgd) (flow_run (v := .int .i64 30) (by go_simp) (But.refl _ _) (GV.of rfl))
    -- 42
    refine ⟨fun a9 w9 hR hk hf => ?_, ?_⟩
    · simp only [KnowF, FreeF, and_true] at hk hf
      have hgd := (hk.1).eval (v := .bool true) rfl
      have e41 := (hk.2).ev (v := .int .i64 30) rfl
      exact flow_on (wanted_at (j := 15) (b := true) (s := 40) rfl rfl hgd) (flow_run (v := .bool true) (by go_simp) (But.refl _ _) (GV.of rfl))
    -- 43
    refine ⟨fun a9 w9 hR hk hf => ?_, ?_⟩
    · simp only [KnowF, FreeF, and_true] at hk hf
      have e40 := (hk.1).ev (v := .bool true) rfl
      have e42 := (hk.2).ev (v := .bool true) rfl
      exact flow_on (rfl) (flow_run (v := .bool true) (by go_simp) (But.refl _ _) (GV.of rfl))
    exact trivial
  · intro f w5 hb5 hG
    have e43 : f 43 = .bool true := hG 18 _ 43 (by decide) rfl rfl _ rfl
    have HB5 := Lib.hid hb5
    clear hG hb5
    simp only [List.drop_succ_cons, List.drop_zero]
    show wpList _ _ _ _ { tmps := List.toArray (u0 :: u1 :: .int .i64 0 :: .int .i64 0 :: .pointer (some ⟨b4, 0, none⟩) :: .int .i64 0 :: u6 :: .int .i64 30 :: u8 :: u9 :: u10 :: u11 :: u12 :: u13 :: u14 :: u15 :: u16 :: u17 :: u18 :: u19 :: u20 :: u21 :: u22 :: u23 :: u24 :: f 25 :: f 26 :: f 27 :: f 28 :: f 29 :: f 30 :: f 31 :: f 32 :: f 33 :: f 34 :: f 35 :: f 36 :: f 37 :: f 38 :: f 39 :: f 40 :: f 41 :: f 42 :: f 43 :: []), defers := [] } w5
    go_wp2_with fail
    rw [e43]
    exact HQ.out _ _ _ _ _ _ _ _ _ _ _ _ _ _ _ _ _ _ _ _ HB5.out
end Go.Proofs.Ytmaeiifhmngllaa.M
