/-
  hatchwaykit.KeptProgram, SameProgram.
-/
import Derived.Test.YtddeckkcfcodbaaGreatLentI
import Derived.Test.YtddeckkcfcodbaaGreatFlowG
import Derived.Deep.RegionHeld3
import Derived.Deep.DrawnRows
namespace Go.Proofs.YtddeckkcfcodbaaGreat.M
open Go.RowKit Go.Shelf
set_option linter.unusedVariables false
set_option linter.unusedSectionVars false
set_option linter.unusedSimpArgs false
theorem seesI_cell {w : World} {a : Option Addr} {n c : Nat} {l : List Ins} (h : SeesI w (.slice a n c) l) {i : Nat} {x : Ins} (hx : l[i]? = some x) : ∃ b o, a = some ⟨b, o, none⟩ ∧ ∀ W, But [] w W → W.cell? ⟨b, o + i * 5, none⟩ = some (.int .u8 x.op) ∧ W.cell? ⟨b, o + i * 5 + 1, none⟩ = some (.int .u8 x.dst) ∧ W.cell? ⟨b, o + i * 5 + 2, none⟩ = some (.int .u8 x.src) ∧ W.cell? ⟨b, o + i * 5 + 3, none⟩ = some (.int .i16 x.off) ∧ W.cell? ⟨b, o + i * 5 + 4, none⟩ = some (.int .i32 x.imm) := by
  obtain ⟨a', c', e, h⟩ := h
  simp only [Value.slice.injEq] at e
  obtain ⟨rfl, rfl, rfl⟩ := e
  obtain ⟨b, o, e, hc⟩ := h i x hx
  exact ⟨b, o, e, fun W hb => ⟨cell_but hb (hc 0 _ rfl) (by simp), cell_but hb (hc 1 _ rfl) (by simp), cell_but hb (hc 2 _ rfl) (by simp), cell_but hb (hc 3 _ rfl) (by simp), cell_but hb (hc 4 _ rfl) (by simp)⟩⟩
set_option maxRecDepth 100000 in
set_option maxHeartbeats 4000000 in
theorem sameI (s t : Value) (l : List Ins) (w : World) (hs : SeesI w s l) (ht : SeesI w t l) (hl : l.length ≤ 1000000) :
    Calls Tryz.prog 8 #[s, t] w fun e w' => e = .returned (.bool true) ∧ But [] w w' := by
  obtain ⟨a, c, rfl, _⟩ := id hs
  obtain ⟨a2, c2, rfl, _⟩ := id ht
  have HS := Lib.hid (fun i x (hx : l[i]? = some x) => seesI_cell hs hx)
  have HT := Lib.hid (fun i x (hx : l[i]? = some x) => seesI_cell ht hx)
  clear hs ht
  go_enter Tryz.func8, Tryz.ntmps8
  go_wp2
  go_loopw [5] (fun i wr => ∃ k : Nat, k ≤ l.length ∧ i = .int .i64 k ∧ But [] w wr) (fun i _ => l.length - (intOf i).toNat)
  case atStart => exact ⟨0, by omega, rfl, But.refl _ _⟩
  case round =>
    obtain ⟨k, hk, rfl, hbut⟩ := hrel
    have HB := Lib.hid hbut
    by_cases hlt : k < l.length
    · obtain ⟨x, hxk⟩ : ∃ x, l[k]? = some x := ⟨_, List.getElem?_eq_getElem hlt⟩
      obtain ⟨b, o, rfl, hc1⟩ := HS.out k x hxk
      obtain ⟨b2, o2, rfl, hc2⟩ := HT.out k x hxk
      obtain ⟨e0, e1, e2, e3, e4⟩ := hc1 wr hbut
      obtain ⟨f0, f1, f2, f3, f4⟩ := hc2 wr hbut
      obtain ⟨op, dst, src, off, imm⟩ := x
      simp only at e0 e1 e2 e3 e4 f0 f1 f2 f3 f4
      have hklo : 0 ≤ (k : Int) := by omega
      have hkhi : (k : Int) < l.length := by omega
      have hs1 : IntKind.i64.wrap ((k : Int) + 1) = (k : Int) + 1 := IntWalk.i64_in _ (by omega)
      clear hbut hc1 hc2 hxk
      go_wp2
      go_quiet (fail)
      go_wp2
      go_roundw
      case rel => exact ⟨k + 1, by omega, by go_num, HB.out.drewN _⟩
      case measure => simp [intOf]; omega
    · obtain rfl : k = l.length := by omega
      go_wp2
      go_ret
      exact ⟨rfl, hbut⟩
set_option maxRecDepth 100000 in
set_option maxHeartbeats 4000000 in
theorem keptI (v s : Value) (l : List Ins) (w : World) (hv : LentI w v l) (hs : SeesI w s l) (hl : l.length ≤ 1000000) :
    Calls Tryz.prog 14 #[v, s] w fun e w' => e = .returned (.bool true) ∧ But [] w w' := by
  obtain ⟨g, rfl, hrow⟩ := hv
  obtain ⟨a2, c2, rfl, _⟩ := id hs
  have hsee := hrow.sees
  have hlm : (l ++ marksI 1 12).length = l.length + 12 := by rw [List.length_append, marksI_len]
  have HS := Lib.hid (fun i x (hx : (l ++ marksI 1 12)[i]? = some x) => seesI_cell hsee hx)
  have HT := Lib.hid (fun i x (hx : l[i]? = some x) => seesI_cell hs hx)
  clear hs hrow hsee hlm
  go_enter Tryz.func14, Tryz.ntmps14
  go_wp2_with fail
  go_loopw [6] (fun i wr => ∃ k : Nat, k ≤ l.length + 12 ∧ i = .int .i64 k ∧ But [] w wr) (fun i _ => l.length + 12 - (intOf i).toNat)
  case atStart => exact ⟨0, by omega, rfl, But.refl _ _⟩
  case round =>
    obtain ⟨k, hk, rfl, hb⟩ := hrel
    have HB := Lib.hid hb
    have hk0 : (0 : Int) ≤ k := by omega
    by_cases hlt : k < l.length
    · obtain ⟨x, hxk⟩ : ∃ x, l[k]? = some x := ⟨_, List.getElem?_eq_getElem hlt⟩
      obtain ⟨b, o, hbo, hc1⟩ := HS.out k x (by rw [List.getElem?_append_left hlt]; exact hxk)
      obtain ⟨b2, o2, rfl, hc2⟩ := HT.out k x hxk
      simp only [Option.some.injEq, Addr.mk.injEq, and_true] at hbo
      obtain ⟨rfl, rfl⟩ := hbo
      obtain ⟨e0, e1, e2, e3, e4⟩ := hc1 wr hb
      obtain ⟨f0, f1, f2, f3, f4⟩ := hc2 wr hb
      obtain ⟨op, dst, src, off, imm⟩ := x
      simp only [Nat.zero_add] at e0 e1 e2 e3 e4 f0 f1 f2 f3 f4
      have d1 : decide (k < l.length) = true := by simpa using hlt
      have d2 : decide (l.length ≤ k) = false := by simpa using hlt
      have i1 : (k : Int) < l.length := by omega
      have i2 : (k : Int) < (l.length : Int) + 12 := by omega
      clear hb hc1 hc2 hxk
      go_wp2_with fail
      go_quiet (fail)
      go_wp2_with fail
      go_roundw
      case rel => exact ⟨k + 1, by omega, by go_num, HB.out.drewN _⟩
      case measure => simp [intOf]; omega
    · by_cases hlt2 : k < l.length + 12
      · obtain ⟨b, o, hbo, hc1⟩ := HS.out k (mI 1 ((k : Int) - l.length)) (by
          rw [List.getElem?_append_right (by omega), marksI_at (by omega)]
          congr 2
          omega)
        simp only [Option.some.injEq, Addr.mk.injEq, and_true] at hbo
        obtain ⟨rfl, rfl⟩ := hbo
        obtain ⟨e0, e1, e2, e3, e4⟩ := hc1 wr hb
        simp only [Nat.zero_add, mI] at e0 e1 e2 e3 e4
        have d1 : decide (k < l.length) = false := by simpa using hlt
        have d2 : decide (l.length ≤ k) = true := by simp; omega
        have i2 : (k : Int) < (l.length : Int) + 12 := by omega
        have s1 : IntKind.i64.wrap ((k : Int) - l.length) = (k : Int) - l.length := IntWalk.i64_in _ (by omega)
        clear hb hc1
        go_wp2_with fail
        have hsub : wrap64 ((k : Int) - l.length) = (k : Int) - l.length := by rw [wrap64]; omega
        have H5 := Lib.hid (And.intro e0 (And.intro e1 (And.intro e2 (And.intro e3 e4))))
        clear e0 e1 e2 e3 e4
        refine wp_region_flowG 34 (by decide) (by kernel_rfl) (But []) (fun _ _ _ h1 h2 => h1.trans h2 (by simp)) (⟨rfl, rfl, rfl, Nat.le_refl _, fun _ _ _ => rfl⟩) (GV [.int .i64 (k : Int), .slice a2 l.length c2, .int .i64 (l.length : Int), .bool false, .bool false, undef, undef, undef, undef, undef, undef, undef, undef, undef, undef, .bool false, .bool false, .int .i64 (k : Int), .slice a2 l.length c2, .int .i64 (l.length : Int), .bool true, .bool true, .slice (some ⟨g, 0, none⟩) (l.length + 12) (l.length + 12), .int .i64 (k : Int), .pointer (some ⟨g, k * 5, none⟩), .agg #[.int .u8 0, .int .u8 0, .int .u8 0, .int .i16 0, .int .i32 (wI 1 ((k : Int) - l.length))], .int .i64 (k : Int), .slice a2 l.length c2, .int .i64 (l.length : Int), .int .i64 ((k : Int) - l.length), .agg #[.int .u8 0, .int .u8 0, .int .u8 0, .int .i16 0, .int .i32 (wI 1 ((k : Int) - l.length))], .bool true, .bool false, .bool false]) [[], [], [(1, 24)], [(0, 23), (2, 25)], [(3, 26)], [(4, 27)], [(4, 27)], [(4, 27)], [(4, 27)], [(4, 27)], [(4, 27)], [(4, 27)], [(4, 27)], [(4, 27)], [(4, 27)], [(4, 27), (14, 37)], [(15, 38)], [(16, 39)], [(16, 39)], [(16, 39), (18, 41)], [(16, 39), (17, 40), (19, 42)], [(16, 39), (20, 43)], [(21, 44)], [(21, 44)], [(21, 44), (22, 45), (23, 46)], [(21, 44), (24, 47)], [(21, 44)], [(21, 44)], [(21, 44), (27, 50)], [(21, 44), (26, 49), (28, 51)], [(21, 44), (29, 52)], [(21, 44), (25, 48), (30, 53)], [(21, 44), (31, 54)], [(16, 39), (21, 44), (32, 55)]] [[(6, .int .i64 (k : Int))], [(1, .slice a2 l.length c2)], [], [], [], [], [], [], [], [], [], [], [], [], [], [], [], [(6, .int .i64 (k : Int))], [(1, .slice a2 l.length c2)], [], [], [], [(5, .slice (some ⟨g, 0, none⟩) (l.length + 12) (l.length + 12))], [(6, .int .i64 (k : Int))], [], [], [(6, .int .i64 (k : Int))], [(1, .slice a2 l.length c2)], [], [], [], [], [], []] (by kernel_rfl) (by kernel_rfl) (by kernel_rfl) (by kernel_rfl) ?_ (fun _ _ _ _ _ h _ => h) ?_ ?_
        · exact ⟨⟨rfl, trivial⟩, ⟨rfl, trivial⟩, trivial, trivial, trivial, trivial, trivial, trivial, trivial, trivial, trivial, trivial, trivial, trivial, trivial, trivial, trivial, ⟨rfl, trivial⟩, ⟨rfl, trivial⟩, trivial, trivial, trivial, ⟨rfl, trivial⟩, ⟨rfl, trivial⟩, trivial, trivial, ⟨rfl, trivial⟩, ⟨rfl, trivial⟩, trivial, trivial, trivial, trivial, trivial, trivial, trivial⟩
        · simp only [List.take_succ_cons, List.take_zero]
          -- 23
          refine ⟨fun a w hR hk hf => ?_, ?_⟩
          · simp only [KnowF, FreeF, and_true] at hk hf
            have e6 : a.tmps[6]?.getD undef = .int .i64 (k : Int) := freeF_ev hf
            exact flow_on (rfl) (flow_run (v := .int .i64 (k : Int)) (by go_simp) (But.refl _ _) (GV.of rfl))
          -- 24
          refine ⟨fun a w hR hk hf => ?_, ?_⟩
          · simp only [KnowF, FreeF, and_true] at hk hf
            have e1 : a.tmps[1]?.getD undef = .slice a2 l.length c2 := freeF_ev hf
            exact flow_on (rfl) (flow_run (v := .slice a2 l.length c2) (by go_simp) (But.refl _ _) (GV.of rfl))
          -- 25
          refine ⟨fun a w hR hk hf => ?_, ?_⟩
          · simp only [KnowF, FreeF, and_true] at hk hf
            have e24 := (hk).ev (v := .slice a2 l.length c2) rfl
            exact flow_on (rfl) (flow_run (v := .int .i64 (l.length : Int)) (by go_simp) (But.refl _ _) (GV.of rfl))
          -- 26
          refine ⟨fun a w hR hk hf => ?_, ?_⟩
          · simp only [KnowF, FreeF, and_true] at hk hf
            have e23 := (hk.1).ev (v := .int .i64 (k : Int)) rfl
            have e25 := (hk.2).ev (v := .int .i64 (l.length : Int)) rfl
            exact flow_on (rfl) (flow_run (v := .bool false) (by go_simp) (But.refl _ _) (GV.of rfl))
          -- 27
          refine ⟨fun a w hR hk hf => ?_, ?_⟩
          · simp only [KnowF, FreeF, and_true] at hk hf
            have e26 := (hk).ev (v := .bool false) rfl
            exact flow_on (rfl) (flow_run (v := .bool false) (by go_simp) (But.refl _ _) (GV.of rfl))
          -- 28
          refine ⟨fun a w hR hk hf => ?_, ?_⟩
          · simp only [KnowF, FreeF, and_true] at hk hf
            have hgd := (hk).eval (v := .bool false) rfl
            exact flow_off (wanted_at (j := 4) (b := true) (s := 27) rfl rfl hgd) (But.refl _ _) (GV.of rfl)
          -- 29
          refine ⟨fun a w hR hk hf => ?_, ?_⟩
          · simp only [KnowF, FreeF, and_true] at hk hf
            have hgd := (hk).eval (v := .bool false) rfl
            exact flow_off (wanted_at (j := 4) (b := true) (s := 27) rfl rfl hgd) (But.refl _ _) (GV.of rfl)
          -- 30
          refine ⟨fun a w hR hk hf => ?_, ?_⟩
          · simp only [KnowF, FreeF, and_true] at hk hf
            have hgd := (hk).eval (v := .bool false) rfl
            exact flow_off (wanted_at (j := 4) (b := true) (s := 27) rfl rfl hgd) (But.refl _ _) (GV.of rfl)
          -- 31
          refine ⟨fun a w hR hk hf => ?_, ?_⟩
          · simp only [KnowF, FreeF, and_true] at hk hf
            have hgd := (hk).eval (v := .bool false) rfl
            exact flow_off (wanted_at (j := 4) (b := true) (s := 27) rfl rfl hgd) (But.refl _ _) (GV.of rfl)
          -- 32
          refine ⟨fun a w hR hk hf => ?_, ?_⟩
          · simp only [KnowF, FreeF, and_true] at hk hf
            have hgd := (hk).eval (v := .bool false) rfl
            exact flow_off (wanted_at (j := 4) (b := true) (s := 27) rfl rfl hgd) (But.refl _ _) (GV.of rfl)
          -- 33
          refine ⟨fun a w hR hk hf => ?_, ?_⟩
          · simp only [KnowF, FreeF, and_true] at hk hf
            have hgd := (hk).eval (v := .bool false) rfl
            exact flow_off (wanted_at (j := 4) (b := true) (s := 27) rfl rfl hgd) (But.refl _ _) (GV.of rfl)
          -- 34
          refine ⟨fun a w hR hk hf => ?_, ?_⟩
          · simp only [KnowF, FreeF, and_true] at hk hf
            have hgd := (hk).eval (v := .bool false) rfl
            exact flow_off (wanted_at (j := 4) (b := true) (s := 27) rfl rfl hgd) (But.refl _ _) (GV.of rfl)
          -- 35
          refine ⟨fun a w hR hk hf => ?_, ?_⟩
          · simp only [KnowF, FreeF, and_true] at hk hf
            have hgd := (hk).eval (v := .bool false) rfl
            exact flow_off (wanted_at (j := 4) (b := true) (s := 27) rfl rfl hgd) (But.refl _ _) (GV.of rfl)
          -- 36
          refine ⟨fun a w hR hk hf => ?_, ?_⟩
          · simp only [KnowF, FreeF, and_true] at hk hf
            have hgd := (hk).eval (v := .bool false) rfl
            exact flow_off (wanted_at (j := 4) (b := true) (s := 27) rfl rfl hgd) (But.refl _ _) (GV.of rfl)
          -- 37
          refine ⟨fun a w hR hk hf => ?_, ?_⟩
          · simp only [KnowF, FreeF, and_true] at hk hf
            have hgd := (hk).eval (v := .bool false) rfl
            exact flow_off (wanted_at (j := 4) (b := true) (s := 27) rfl rfl hgd) (But.refl _ _) (GV.of rfl)
          -- 38
          refine ⟨fun a w hR hk hf => ?_, ?_⟩
          · simp only [KnowF, FreeF, and_true] at hk hf
            have e27 := (hk.1).ev (v := .bool false) rfl
            have e37 := (hk.2).ev (v := undef) rfl
            exact flow_on (rfl) (flow_run (v := .bool false) (by go_simp) (But.refl _ _) (GV.of rfl))
          -- 39
          refine ⟨fun a w hR hk hf => ?_, ?_⟩
          · simp only [KnowF, FreeF, and_true] at hk hf
            have e38 := (hk).ev (v := .bool false) rfl
            exact flow_on (rfl) (flow_run (v := .bool false) (by go_simp) (But.refl _ _) (GV.of rfl))
          -- 40
          refine ⟨fun a w hR hk hf => ?_, ?_⟩
          · simp only [KnowF, FreeF, and_true] at hk hf
            have hgd := (hk).eval (v := .bool false) rfl
            have e6 : a.tmps[6]?.getD undef = .int .i64 (k : Int) := freeF_ev hf
            exact flow_on (wanted_at (j := 16) (b := false) (s := 39) rfl rfl hgd) (flow_run (v := .int .i64 (k : Int)) (by go_simp) (But.refl _ _) (GV.of rfl))
          -- 41
          refine ⟨fun a w hR hk hf => ?_, ?_⟩
          · simp only [KnowF, FreeF, and_true] at hk hf
            have hgd := (hk).eval (v := .bool false) rfl
            have e1 : a.tmps[1]?.getD undef = .slice a2 l.length c2 := freeF_ev hf
            exact flow_on (wanted_at (j := 16) (b := false) (s := 39) rfl rfl hgd) (flow_run (v := .slice a2 l.length c2) (by go_simp) (But.refl _ _) (GV.of rfl))
          -- 42
          refine ⟨fun a w hR hk hf => ?_, ?_⟩
          · simp only [KnowF, FreeF, and_true] at hk hf
            have hgd := (hk.1).eval (v := .bool false) rfl
            have e41 := (hk.2).ev (v := .slice a2 l.length c2) rfl
            exact flow_on (wanted_at (j := 16) (b := false) (s := 39) rfl rfl hgd) (flow_run (v := .int .i64 (l.length : Int)) (by go_simp) (But.refl _ _) (GV.of rfl))
          -- 43
          refine ⟨fun a w hR hk hf => ?_, ?_⟩
          · simp only [KnowF, FreeF, and_true] at hk hf
            have hgd := (hk.1).eval (v := .bool false) rfl
            have e40 := (hk.2.1).ev (v := .int .i64 (k : Int)) rfl
            have e42 := (hk.2.2).ev (v := .int .i64 (l.length : Int)) rfl
            exact flow_on (wanted_at (j := 16) (b := false) (s := 39) rfl rfl hgd) (flow_run (v := .bool true) (by go_simp) (But.refl _ _) (GV.of rfl))
          -- 44
          refine ⟨fun a w hR hk hf => ?_, ?_⟩
          · simp only [KnowF, FreeF, and_true] at hk hf
            have hgd := (hk.1).eval (v := .bool false) rfl
            have e43 := (hk.2).ev (v := .bool true) rfl
            exact flow_on (wanted_at (j := 16) (b := false) (s := 39) rfl rfl hgd) (flow_run (v := .bool true) (by go_simp) (But.refl _ _) (GV.of rfl))
          -- 45
          refine ⟨fun a w hR hk hf => ?_, ?_⟩
          · simp only [KnowF, FreeF, and_true] at hk hf
            have hgd := (hk).eval (v := .bool true) rfl
            have e5 : a.tmps[5]?.getD undef = .slice (some ⟨g, 0, none⟩) (l.length + 12) (l.length + 12) := freeF_ev hf
            exact flow_on (wanted_at (j := 21) (b := true) (s := 44) rfl rfl hgd) (flow_run (v := .slice (some ⟨g, 0, none⟩) (l.length + 12) (l.length + 12)) (by go_simp) (But.refl _ _) (GV.of rfl))
          -- 46
          refine ⟨fun a w hR hk hf => ?_, ?_⟩
          · simp only [KnowF, FreeF, and_true] at hk hf
            have hgd := (hk).eval (v := .bool true) rfl
            have e6 : a.tmps[6]?.getD undef = .int .i64 (k : Int) := freeF_ev hf
            exact flow_on (wanted_at (j := 21) (b := true) (s := 44) rfl rfl hgd) (flow_run (v := .int .i64 (k : Int)) (by go_simp) (But.refl _ _) (GV.of rfl))
          -- 47
          refine ⟨fun a w hR hk hf => ?_, ?_⟩
          · simp only [KnowF, FreeF, and_true] at hk hf
            have hgd := (hk.1).eval (v := .bool true) rfl
            have e45 := (hk.2.1).ev (v := .slice (some ⟨g, 0, none⟩) (l.length + 12) (l.length + 12)) rfl
            have e46 := (hk.2.2).ev (v := .int .i64 (k : Int)) rfl
            exact flow_on (wanted_at (j := 21) (b := true) (s := 44) rfl rfl hgd) (flow_run (v := .pointer (some ⟨g, k * 5, none⟩)) (by go_simp) (But.refl _ _) (GV.of rfl))
          -- 48
          refine ⟨fun a w hR hk hf => ?_, ?_⟩
          · simp only [KnowF, FreeF, and_true] at hk hf
            have hgd := (hk.1).eval (v := .bool true) rfl
            have e47 := (hk.2).ev (v := .pointer (some ⟨g, k * 5, none⟩)) rfl
            have f0 := cell_but hR H5.out.1 (by simp)
            have f1 := cell_but hR H5.out.2.1 (by simp)
            have f2 := cell_but hR H5.out.2.2.1 (by simp)
            have f3 := cell_but hR H5.out.2.2.2.1 (by simp)
            have f4 := cell_but hR H5.out.2.2.2.2 (by simp)
            exact flow_on (wanted_at (j := 21) (b := true) (s := 44) rfl rfl hgd) (flow_run (v := .agg #[.int .u8 0, .int .u8 0, .int .u8 0, .int .i16 0, .int .i32 (wI 1 ((k : Int) - l.length))]) (by go_simp) (But.refl _ _) (GV.of rfl))
          -- 49
          refine ⟨fun a w hR hk hf => ?_, ?_⟩
          · simp only [KnowF, FreeF, and_true] at hk hf
            have hgd := (hk).eval (v := .bool true) rfl
            have e6 : a.tmps[6]?.getD undef = .int .i64 (k : Int) := freeF_ev hf
            exact flow_on (wanted_at (j := 21) (b := true) (s := 44) rfl rfl hgd) (flow_run (v := .int .i64 (k : Int)) (by go_simp) (But.refl _ _) (GV.of rfl))
          -- 50
          refine ⟨fun a w hR hk hf => ?_, ?_⟩
          · simp only [KnowF, FreeF, and_true] at hk hf
            have hgd := (hk).eval (v := .bool true) rfl
            have e1 : a.tmps[1]?.getD undef = .slice a2 l.length c2 := freeF_ev hf
            exact flow_on (wanted_at (j := 21) (b := true) (s := 44) rfl rfl hgd) (flow_run (v := .slice a2 l.length c2) (by go_simp) (But.refl _ _) (GV.of rfl))
          -- 51
          refine ⟨fun a w hR hk hf => ?_, ?_⟩
          · simp only [KnowF, FreeF, and_true] at hk hf
            have hgd := (hk.1).eval (v := .bool true) rfl
            have e50 := (hk.2).ev (v := .slice a2 l.length c2) rfl
            exact flow_on (wanted_at (j := 21) (b := true) (s := 44) rfl rfl hgd) (flow_run (v := .int .i64 (l.length : Int)) (by go_simp) (But.refl _ _) (GV.of rfl))
          -- 52
          refine ⟨fun a w hR hk hf => ?_, ?_⟩
          · simp only [KnowF, FreeF, and_true] at hk hf
            have hgd := (hk.1).eval (v := .bool true) rfl
            have e49 := (hk.2.1).ev (v := .int .i64 (k : Int)) rfl
            have e51 := (hk.2.2).ev (v := .int .i64 (l.length : Int)) rfl
            exact flow_on (wanted_at (j := 21) (b := true) (s := 44) rfl rfl hgd) (flow_run (v := .int .i64 ((k : Int) - l.length)) (by go_simp) (But.refl _ _) (GV.of rfl))
          -- 53
          refine ⟨fun a w hR hk hf => ?_, ?_⟩
          · simp only [KnowF, FreeF, and_true] at hk hf
            have hgd := (hk.1).eval (v := .bool true) rfl
            have e52 := (hk.2).ev (v := .int .i64 ((k : Int) - l.length)) rfl
            exact flow_on (wanted_at (j := 21) (b := true) (s := 44) rfl rfl hgd) (flow_call (f := 31) (args := #[.int .i64 1, .int .i64 ((k : Int) - l.length)]) (by go_simp) ((markInstr _ _ _).mono (by rintro e w' ⟨rfl, hb⟩; exact ⟨_, rfl, hb, GV.of rfl⟩)))
          -- 54
          refine ⟨fun a w hR hk hf => ?_, ?_⟩
          · simp only [KnowF, FreeF, and_true] at hk hf
            have hgd := (hk.1).eval (v := .bool true) rfl
            have e48 := (hk.2.1).ev (v := .agg #[.int .u8 0, .int .u8 0, .int .u8 0, .int .i16 0, .int .i32 (wI 1 ((k : Int) - l.length))]) rfl
            have e53 := (hk.2.2).ev (v := .agg #[.int .u8 0, .int .u8 0, .int .u8 0, .int .i16 0, .int .i32 (wI 1 ((k : Int) - l.length))]) rfl
            exact flow_on (wanted_at (j := 21) (b := true) (s := 44) rfl rfl hgd) (flow_run (v := .bool true) (by go_simp) (But.refl _ _) (GV.of rfl))
          -- 55
          refine ⟨fun a w hR hk hf => ?_, ?_⟩
          · simp only [KnowF, FreeF, and_true] at hk hf
            have hgd := (hk.1).eval (v := .bool true) rfl
            have e54 := (hk.2).ev (v := .bool true) rfl
            exact flow_on (wanted_at (j := 21) (b := true) (s := 44) rfl rfl hgd) (flow_run (v := .bool false) (by go_simp) (But.refl _ _) (GV.of rfl))
          -- 56
          refine ⟨fun a w hR hk hf => ?_, ?_⟩
          · simp only [KnowF, FreeF, and_true] at hk hf
            have hgd := (hk.1).eval (v := .bool false) rfl
            have e44 := (hk.2.1).ev (v := .bool true) rfl
            have e55 := (hk.2.2).ev (v := .bool false) rfl
            exact flow_on (wanted_at (j := 16) (b := false) (s := 39) rfl rfl hgd) (flow_run (v := .bool false) (by go_simp) (But.refl _ _) (GV.of rfl))
          exact trivial
        · intro f w5 hb5 hG
          have e39 : f 39 = .bool false := hG 16 _ 39 (by decide) rfl rfl _ rfl
          have e56 : f 56 = .bool false := hG 33 _ 56 (by decide) rfl rfl _ rfl
          have HB5 := Lib.hid (HB.out.trans hb5 (by simp))
          clear hG hb5
          simp only [List.drop_succ_cons, List.drop_zero]
          show wpList _ _ _ _ { tmps := List.toArray (.slice (some ⟨g, 0, none⟩) l.length (l.length + 12) :: .slice a2 l.length c2 :: undef :: undef :: u4 :: .slice (some ⟨g, 0, none⟩) (l.length + 12) (l.length + 12) :: .int .i64 (k : Int) :: .slice (some ⟨g, 0, none⟩) l.length (l.length + 12) :: .int .i64 (l.length : Int) :: .slice a2 l.length c2 :: .int .i64 (l.length : Int) :: .bool false :: .slice (some ⟨g, 0, none⟩) l.length (l.length + 12) :: .slice a2 l.length c2 :: .int .i64 (l.length : Int) :: .int .i64 ((l.length : Int) + 12) :: .slice (some ⟨g, 0, none⟩) (l.length + 12) (l.length + 12) :: .int .i64 (k : Int) :: .slice (some ⟨g, 0, none⟩) (l.length + 12) (l.length + 12) :: .int .i64 ((l.length : Int) + 12) :: .bool true :: u21 :: u22 :: f 23 :: f 24 :: f 25 :: f 26 :: f 27 :: f 28 :: f 29 :: f 30 :: f 31 :: f 32 :: f 33 :: f 34 :: f 35 :: f 36 :: f 37 :: f 38 :: f 39 :: f 40 :: f 41 :: f 42 :: f 43 :: f 44 :: f 45 :: f 46 :: f 47 :: f 48 :: f 49 :: f 50 :: f 51 :: f 52 :: f 53 :: f 54 :: f 55 :: f 56 :: u57 :: []), defers := [] } w5
          go_wp2_with fail
          go_roundw
          case rel => exact ⟨k + 1, by omega, by go_num, HB5.out⟩
          case measure => simp [intOf]; omega
      · obtain rfl : k = l.length + 12 := by omega
        go_wp2_with fail
        go_ret
        exact ⟨rfl, hb⟩
end Go.Proofs.YtddeckkcfcodbaaGreat.M
