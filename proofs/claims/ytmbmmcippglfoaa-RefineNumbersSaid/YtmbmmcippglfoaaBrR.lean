/-
  refine.Branch: the drawn statement of its round.
-/
import Derived.Test.YtmbmmcippglfoaaBrA
import Derived.Test.YtmbmmcippglfoaaGE
namespace Go.Proofs.Ytmbmmcippglfoaa.M
open Go.RowKit Go.Shelf
set_option linter.unusedVariables false
set_option linter.unusedSectionVars false
set_option linter.unusedSimpArgs false

attribute [local go_sem] Oper.semAt_some
def regionR (n : Nat) : Code → Option Code
  | .region k ops b => if k = n then some (.region k ops b) else none
  | .seq a b => match regionR n a with
    | some c => some c
    | none => regionR n b
  | .block _ c => regionR n c
  | .loop c => regionR n c
  | .scope c => regionR n c
  | .cond _ a b => match regionR n a with
    | some c => some c
    | none => regionR n b
  | .rangeFunc _ _ a b => match regionR n a with
    | some c => some c
    | none => regionR n b
  | _ => none
noncomputable def code_b12 : Code := ((Try.f12.body.getD .skip |> regionR 12).getD .skip)
def TupG (r : Option Sc) (v : Value) : Prop := ∃ c : Sc, v = .tuple #[c.val, .bool r.isSome] ∧ ∀ d, r = some d → c = d
def BG (op : Nat) (side : Bool) (x : Nat) (a b : Sc) (pb : Nat) (wr : World) : Nat → Value → World → Prop
  | 0, v, w => ∃ M, v = .map (some M) ∧ Tab wr w M allOps
  | 1, v, _ => v = .int .u8 (op : Int)
  | 2, v, w => Row2 v (ruleT op false) (ruleT op true) w
  | 3, v, _ => v = .int .i64 (x : Int)
  | 4, v, w => ∃ g o u, v = .pointer (some ⟨g, o, none⟩) ∧ w.cell? ⟨g, o, none⟩ = some u ∧ RuleV u (ruleT op side) w
  | 5, v, w => RuleV v (ruleT op side) w
  | 6, v, _ => v = .pointer (some ⟨pb, 0, none⟩)
  | 7, v, _ => v = a.val
  | 8, v, _ => v = .pointer (some ⟨pb, 6, none⟩)
  | 9, v, _ => v = b.val
  | 10, v, _ => TupG (ruleT op side a b) v
  | 11, v, _ => TupG (ruleT op side a b) v
  | 12, v, _ => ∃ c : Sc, v = c.val ∧ ∀ d, ruleT op side a b = some d → c = d
  | 13, v, _ => v = .bool (ruleT op side a b).isSome
  | _, v, w => ∃ k, v = .pointer (some ⟨k, 0, none⟩) ∧ wr.heap.size ≤ k ∧ w.heap[k]? = some (.cells #[.int .u64 0, .int .u64 0, .int .u64 0, .int .u64 0, .int .i64 0, .int .i64 0] 28)
theorem BG.keep {op : Nat} {side : Bool} {x : Nat} {a b : Sc} {pb : Nat} {wr : World} : ∀ (i : Nat) (v : Value) (w w' : World), But [] wr w → BG op side x a b pb wr i v w → But [] w w' → BG op side x a b pb wr i v w'
  | 0, v, w, w', _, h, hb => by obtain ⟨M, h1, h2⟩ := h; exact ⟨M, h1, h2.but hb⟩
  | 1, v, w, w', _, h, hb => h
  | 2, v, w, w', _, h, hb => Row2.keep h (KC.of_but hb)
  | 3, v, w, w', _, h, hb => h
  | 4, v, w, w', _, h, hb => by obtain ⟨g, o, u, h1, h2, h3⟩ := h; exact ⟨g, o, u, h1, KC.of_but hb _ _ h2, h3.keep (KC.of_but hb)⟩
  | 5, v, w, w', _, h, hb => RuleV.keep h (KC.of_but hb)
  | 6, v, w, w', _, h, hb => h
  | 7, v, w, w', _, h, hb => h
  | 8, v, w, w', _, h, hb => h
  | 9, v, w, w', _, h, hb => h
  | 10, v, w, w', _, h, hb => h
  | 11, v, w, w', _, h, hb => h
  | 12, v, w, w', _, h, hb => h
  | 13, v, w, w', _, h, hb => h
  | n + 14, v, w, w', _, h, hb => by obtain ⟨k, h1, h2, h3⟩ := h; exact ⟨k, h1, h2, hb.heap h3 (by simp)⟩
theorem set6 {w : World} {k : Nat} {x0 x1 x2 x3 x4 x5 a b c d e f : Value} {t : TypeId} (h : w.heap[k]? = some (.cells #[x0, x1, x2, x3, x4, x5] t)) : ((((((w.setCell ⟨k, 0, none⟩ a).setCell ⟨k, 1, none⟩ b).setCell ⟨k, 2, none⟩ c).setCell ⟨k, 3, none⟩ d).setCell ⟨k, 4, none⟩ e).setCell ⟨k, 5, none⟩ f).heap[k]? = some (.cells #[a, b, c, d, e, f] t) := by
  simp [World.setCell, Array.getElem?_modify, h]
set_option maxRecDepth 100000 in
set_option maxHeartbeats 8000000 in
theorem br12 (lp N : Nat) (Q : Exit → Act → World → Prop) {wr : World} {O pb op x : Nat} {side : Bool} {v m lo hi xv xm xlo xhi : Nat} {sl sh xsl xsh : Int} (ha : Fx ⟨⟨v, m⟩, ⟨lo, hi, sl, sh⟩⟩) (hb : Fx ⟨⟨xv, xm⟩, ⟨xlo, xhi, xsl, xsh⟩⟩) (hop : op ∈ allOps) (hx : (x = 0 ∧ side = false) ∨ (x = 1 ∧ side = true))
    (HO : Hid (wr.heap[O]? = some (.cells #[.int .u8 (op : Int)] 5))) (HP : Hid (wr.heap[pb]? = some (.cells #[.int .u64 v, .int .u64 m, .int .u64 lo, .int .u64 hi, .int .i64 sl, .int .i64 sh, .int .u64 xv, .int .u64 xm, .int .u64 xlo, .int .u64 xhi, .int .i64 xsl, .int .i64 xsh] 54)))
    {u0 u1 u2 u3 u4 u6 u7 u8 u9 u10 u11 u12 u13 u14 u17 u18 u19 u20 u21 u22 u23 u24 u25 u26 u27 u28 u29 u30 u31 u32 u33 u34 u35 u36 u37 u38 u39 u40 u41 u42 u43 u44 u45 u46 u47 u48 u49 u50 u51 u52 u53 u54 u55 u56 u57 u58 u59 u60 u61 u62 u63 u64 u65 u66 u67 u68 u69 u70 u71 u72 u73 u74 u75 u76 u77 u78 u79 u80 u81 u82 u83 : Value} (hQ : ∀ (z59 z60 z61 z62 z63 z64 z65 z66 z67 z68 z69 z70 z71 z72 : Value) (w6 : World) (k : Nat) (c : Sc), But [] wr w6 → wr.heap.size ≤ k → w6.heap[k]? = some (.cells (scCells c) 28) → (∀ d, ruleT op side ⟨⟨v, m⟩, ⟨lo, hi, sl, sh⟩⟩ ⟨⟨xv, xm⟩, ⟨xlo, xhi, xsl, xsh⟩⟩ = some d → c = d) → Q .normal { tmps := List.toArray (u0 :: u1 :: u2 :: u3 :: u4 :: .pointer (some ⟨O, 0, none⟩) :: u6 :: u7 :: u8 :: u9 :: u10 :: u11 :: u12 :: u13 :: u14 :: .int .i64 (x : Int) :: .pointer (some ⟨pb, 0, none⟩) :: .pointer (some ⟨k, 0, none⟩) :: (.bool (ruleT op side ⟨⟨v, m⟩, ⟨lo, hi, sl, sh⟩⟩ ⟨⟨xv, xm⟩, ⟨xlo, xhi, xsl, xsh⟩⟩).isSome) :: u19 :: u20 :: u21 :: u22 :: u23 :: u24 :: u25 :: u26 :: u27 :: u28 :: u29 :: u30 :: u31 :: u32 :: u33 :: u34 :: u35 :: u36 :: u37 :: u38 :: u39 :: u40 :: u41 :: u42 :: u43 :: u44 :: u45 :: u46 :: u47 :: u48 :: u49 :: u50 :: u51 :: u52 :: u53 :: u54 :: u55 :: u56 :: u57 :: u58 :: z59 :: z60 :: z61 :: z62 :: z63 :: z64 :: z65 :: z66 :: z67 :: z68 :: z69 :: z70 :: z71 :: z72 :: u73 :: u74 :: u75 :: u76 :: u77 :: u78 :: u79 :: u80 :: u81 :: u82 :: u83 :: []), defers := [] } w6) :
    Code.wpIn (Fence.wide.inRound lp) N Try.prog code_b12 Q { tmps := List.toArray (u0 :: u1 :: u2 :: u3 :: u4 :: .pointer (some ⟨O, 0, none⟩) :: u6 :: u7 :: u8 :: u9 :: u10 :: u11 :: u12 :: u13 :: u14 :: .int .i64 (x : Int) :: .pointer (some ⟨pb, 0, none⟩) :: u17 :: u18 :: u19 :: u20 :: u21 :: u22 :: u23 :: u24 :: u25 :: u26 :: u27 :: u28 :: u29 :: u30 :: u31 :: u32 :: u33 :: u34 :: u35 :: u36 :: u37 :: u38 :: u39 :: u40 :: u41 :: u42 :: u43 :: u44 :: u45 :: u46 :: u47 :: u48 :: u49 :: u50 :: u51 :: u52 :: u53 :: u54 :: u55 :: u56 :: u57 :: u58 :: u59 :: u60 :: u61 :: u62 :: u63 :: u64 :: u65 :: u66 :: u67 :: u68 :: u69 :: u70 :: u71 :: u72 :: u73 :: u74 :: u75 :: u76 :: u77 :: u78 :: u79 :: u80 :: u81 :: u82 :: u83 :: []), defers := [] } wr := by
  have HQ := Lib.hid hQ
  have HX := Lib.hid hx
  have HOP := Lib.hid hop
  have HA := Lib.hid ha
  have HB := Lib.hid hb
  clear hQ hx hop ha hb
  conv => arg 4; whnf
  refine wpIn_region_flow1 (by kernel_rfl) 15 13 (by decide) (by kernel_rfl) (But []) (fun _ _ _ h1 h2 => h1.trans h2 (by simp)) (⟨rfl, rfl, rfl, Nat.le_refl _, fun _ _ _ => rfl⟩) (BG op side x ⟨⟨v, m⟩, ⟨lo, hi, sl, sh⟩⟩ ⟨⟨xv, xm⟩, ⟨xlo, xhi, xsl, xsh⟩⟩ pb wr) [[], [], [(0, 60), (1, 61)], [], [(2, 62), (3, 63)], [(4, 64)], [], [(6, 66)], [], [(8, 68)], [(5, 65), (7, 67), (9, 69)], [(10, 70)], [(11, 59)], [(11, 59)], []] [[], [(5, .pointer (some ⟨O, 0, none⟩))], [], [(15, .int .i64 (x : Int))], [], [], [(16, .pointer (some ⟨pb, 0, none⟩))], [], [(16, .pointer (some ⟨pb, 0, none⟩))], [], [], [], [], [], []] (by kernel_rfl) (by kernel_rfl) (by kernel_rfl) (by kernel_rfl) ?_ (fun _ _ _ _ h1 h2 h3 => BG.keep _ _ _ _ h1 h2 h3) ?_ ?_ ?_
  · exact ⟨trivial, ⟨rfl, trivial⟩, trivial, ⟨rfl, trivial⟩, trivial, trivial, ⟨rfl, trivial⟩, trivial, ⟨rfl, trivial⟩, trivial, trivial, trivial, trivial, trivial, trivial, trivial⟩
  · simp only [List.take_succ_cons, List.take_zero]
    -- 60
    refine ⟨fun a9 w9 hR hk hf => ?_, ?_⟩
    · simp only [KnowF, FreeF, and_true] at hk hf
      exact flow_call (f := 27) (args := #[]) (by go_simp) ((rules_c w9).mono fun e w' ⟨M, he, hT⟩ => ⟨_, he, by obtain ⟨_, _, _, _, _, _, _, _, h, _⟩ := hT; exact h, M, rfl, by obtain ⟨es, clock, ps, h1, h2, h3, h4, h5, h6, h7⟩ := hT; exact ⟨es, clock, ps, h1, h2, h3, h4, h5, hR.trans h6 (by simp), Nat.le_trans hR.size h7⟩⟩)
    -- 61
    refine ⟨fun a9 w9 hR hk hf => ?_, ?_⟩
    · simp only [KnowF, FreeF, and_true] at hk hf
      have e5 : a9.tmps[5]?.getD undef = .pointer (some ⟨O, 0, none⟩) := freeF_ev hf
      have f0 := cl_of (hR.heap HO.out (by simp)) 0
      simp only [List.getElem?_toArray, List.getElem?_cons_zero, List.getElem?_cons_succ] at f0
      exact flow_run (v := .int .u8 (op : Int)) (by go_simp) (But.refl _ _) rfl
    -- 62
    refine ⟨fun a9 w9 hR hk hf => ?_, ?_⟩
    · simp only [KnowF, FreeF, and_true] at hk hf
      obtain ⟨M, e60, hT⟩ : ∃ M, a9.eval (.tmp 60) = .map (some M) ∧ Tab wr w9 M allOps := hk.1
      have e61 : a9.tmps[61]?.getD undef = .int .u8 (op : Int) := freeF_ev hk.2
      replace e60 := freeF_ev e60
      obtain ⟨v, hv, hrow⟩ := hT.get (by decide) op HOP.out
      exact flow_run (v := v) (by go_simp) (But.refl _ _) hrow
    -- 63
    refine ⟨fun a9 w9 hR hk hf => ?_, ?_⟩
    · simp only [KnowF, FreeF, and_true] at hk hf
      have e15 : a9.tmps[15]?.getD undef = .int .i64 (x : Int) := freeF_ev hf
      exact flow_run (v := .int .i64 (x : Int)) (by go_simp) (But.refl _ _) rfl
    -- 64
    refine ⟨fun a9 w9 hR hk hf => ?_, ?_⟩
    · simp only [KnowF, FreeF, and_true] at hk hf
      obtain ⟨g, o, c, v0, v1, e62, h0, h1, r0, r1⟩ : Row2 (a9.eval (.tmp 62)) (ruleT op false) (ruleT op true) w9 := hk.1
      replace e62 := freeF_ev e62
      have e63 : a9.tmps[63]?.getD undef = .int .i64 (x : Int) := freeF_ev hk.2
      rcases HX.out with ⟨rfl, rfl⟩ | ⟨rfl, rfl⟩
      · exact flow_run (v := .pointer (some ⟨g, o, none⟩)) (by go_simp) (But.refl _ _) ⟨g, o, v0, rfl, h0, r0⟩
      · exact flow_run (v := .pointer (some ⟨g, o + 1, none⟩)) (by go_simp) (But.refl _ _) ⟨g, o + 1, v1, rfl, h1, r1⟩
    -- 65
    refine ⟨fun a9 w9 hR hk hf => ?_, ?_⟩
    · simp only [KnowF, FreeF, and_true] at hk hf
      obtain ⟨g, o, u, e64, h0, r0⟩ : ∃ g o u, a9.eval (.tmp 64) = .pointer (some ⟨g, o, none⟩) ∧ w9.cell? ⟨g, o, none⟩ = some u ∧ RuleV u (ruleT op side) w9 := hk
      replace e64 := freeF_ev e64
      exact flow_run (v := u) (by go_simp) (But.refl _ _) r0
    -- 66
    refine ⟨fun a9 w9 hR hk hf => ?_, ?_⟩
    · simp only [KnowF, FreeF, and_true] at hk hf
      have e16 : a9.tmps[16]?.getD undef = .pointer (some ⟨pb, 0, none⟩) := freeF_ev hf
      exact flow_run (v := .pointer (some ⟨pb, 0, none⟩)) (by go_simp) (But.refl _ _) rfl
    -- 67
    refine ⟨fun a9 w9 hR hk hf => ?_, ?_⟩
    · simp only [KnowF, FreeF, and_true] at hk hf
      have e66 : a9.tmps[66]?.getD undef = .pointer (some ⟨pb, 0, none⟩) := freeF_ev hk
      have f0 : w9.cell? ⟨pb, 0, none⟩ = some (.int .u64 v) := cl_of (hR.heap HP.out (by simp)) 0
      have f1 : w9.cell? ⟨pb, 1, none⟩ = some (.int .u64 m) := cl_of (hR.heap HP.out (by simp)) 1
      have f2 : w9.cell? ⟨pb, 2, none⟩ = some (.int .u64 lo) := cl_of (hR.heap HP.out (by simp)) 2
      have f3 : w9.cell? ⟨pb, 3, none⟩ = some (.int .u64 hi) := cl_of (hR.heap HP.out (by simp)) 3
      have f4 : w9.cell? ⟨pb, 4, none⟩ = some (.int .i64 sl) := cl_of (hR.heap HP.out (by simp)) 4
      have f5 : w9.cell? ⟨pb, 5, none⟩ = some (.int .i64 sh) := cl_of (hR.heap HP.out (by simp)) 5
      exact flow_run (v := .agg #[.int .u64 v, .int .u64 m, .int .u64 lo, .int .u64 hi, .int .i64 sl, .int .i64 sh]) (by go_simp) (But.refl _ _) rfl
    -- 68
    refine ⟨fun a9 w9 hR hk hf => ?_, ?_⟩
    · simp only [KnowF, FreeF, and_true] at hk hf
      have e16 : a9.tmps[16]?.getD undef = .pointer (some ⟨pb, 0, none⟩) := freeF_ev hf
      exact flow_run (v := .pointer (some ⟨pb, 6, none⟩)) (by go_simp) (But.refl _ _) rfl
    -- 69
    refine ⟨fun a9 w9 hR hk hf => ?_, ?_⟩
    · simp only [KnowF, FreeF, and_true] at hk hf
      have e68 : a9.tmps[68]?.getD undef = .pointer (some ⟨pb, 6, none⟩) := freeF_ev hk
      have f6 : w9.cell? ⟨pb, 6, none⟩ = some (.int .u64 xv) := cl_of (hR.heap HP.out (by simp)) 6
      have f7 : w9.cell? ⟨pb, 7, none⟩ = some (.int .u64 xm) := cl_of (hR.heap HP.out (by simp)) 7
      have f8 : w9.cell? ⟨pb, 8, none⟩ = some (.int .u64 xlo) := cl_of (hR.heap HP.out (by simp)) 8
      have f9 : w9.cell? ⟨pb, 9, none⟩ = some (.int .u64 xhi) := cl_of (hR.heap HP.out (by simp)) 9
      have f10 : w9.cell? ⟨pb, 10, none⟩ = some (.int .i64 xsl) := cl_of (hR.heap HP.out (by simp)) 10
      have f11 : w9.cell? ⟨pb, 11, none⟩ = some (.int .i64 xsh) := cl_of (hR.heap HP.out (by simp)) 11
      exact flow_run (v := .agg #[.int .u64 xv, .int .u64 xm, .int .u64 xlo, .int .u64 xhi, .int .i64 xsl, .int .i64 xsh]) (by go_simp) (But.refl _ _) rfl
    -- 70
    refine ⟨fun a9 w9 hR hk hf => ?_, ?_⟩
    · simp only [KnowF, FreeF, and_true] at hk hf
      obtain ⟨n, caps, fs, e65, hcall, hfs, hc⟩ : RuleV (a9.eval (.tmp 65)) (ruleT op side) w9 := hk.1
      replace e65 := freeF_ev e65
      have e67 : a9.tmps[67]?.getD undef = Sc.val ⟨⟨v, m⟩, ⟨lo, hi, sl, sh⟩⟩ := freeF_ev hk.2.1
      have e69 : a9.tmps[69]?.getD undef = Sc.val ⟨⟨xv, xm⟩, ⟨xlo, xhi, xsl, xsh⟩⟩ := freeF_ev hk.2.2
      have hc2 := hc w9 ⟨⟨v, m⟩, ⟨lo, hi, sl, sh⟩⟩ ⟨⟨xv, xm⟩, ⟨xlo, xhi, xsl, xsh⟩⟩ hfs HA.out HB.out
      clear hc hfs
      exact flow_call (f := n) (args := #[Sc.val ⟨⟨v, m⟩, ⟨lo, hi, sl, sh⟩⟩, Sc.val ⟨⟨xv, xm⟩, ⟨xlo, xhi, xsl, xsh⟩⟩] ++ caps) (by go_simp) (hc2.mono fun e w' ⟨c, he, h1, h2⟩ => ⟨_, he, h2, c, rfl, h1⟩)
    -- 59
    refine ⟨fun a9 w9 hR hk hf => ?_, ?_⟩
    · simp only [KnowF, FreeF, and_true] at hk hf
      obtain ⟨c, e70, h1⟩ : TupG (ruleT op side ⟨⟨v, m⟩, ⟨lo, hi, sl, sh⟩⟩ ⟨⟨xv, xm⟩, ⟨xlo, xhi, xsl, xsh⟩⟩) (a9.eval (.tmp 70)) := hk
      replace e70 := freeF_ev e70
      exact flow_run (v := _) (by go_simp) (But.refl _ _) ⟨c, rfl, h1⟩
    -- 71
    refine ⟨fun a9 w9 hR hk hf => ?_, ?_⟩
    · simp only [KnowF, FreeF, and_true] at hk hf
      obtain ⟨c, e59, h1⟩ : TupG (ruleT op side ⟨⟨v, m⟩, ⟨lo, hi, sl, sh⟩⟩ ⟨⟨xv, xm⟩, ⟨xlo, xhi, xsl, xsh⟩⟩) (a9.eval (.tmp 59)) := hk
      replace e59 := freeF_ev e59
      exact flow_run (v := c.val) (by go_simp) (But.refl _ _) ⟨c, rfl, h1⟩
    -- 72
    refine ⟨fun a9 w9 hR hk hf => ?_, ?_⟩
    · simp only [KnowF, FreeF, and_true] at hk hf
      obtain ⟨c, e59, h1⟩ : TupG (ruleT op side ⟨⟨v, m⟩, ⟨lo, hi, sl, sh⟩⟩ ⟨⟨xv, xm⟩, ⟨xlo, xhi, xsl, xsh⟩⟩) (a9.eval (.tmp 59)) := hk
      replace e59 := freeF_ev e59
      exact flow_run (v := .bool (ruleT op side ⟨⟨v, m⟩, ⟨lo, hi, sl, sh⟩⟩ ⟨⟨xv, xm⟩, ⟨xlo, xhi, xsl, xsh⟩⟩).isSome) (by go_simp) (But.refl _ _) rfl
    -- 17
    refine ⟨fun a9 w9 hR hk hf => ?_, ?_⟩
    · simp only [KnowF, FreeF, and_true] at hk hf
      exact flow_run (v := .pointer (some ⟨w9.heap.size, 0, none⟩)) (by go_simp) ((But.refl _ _).alloc _) ⟨_, rfl, hR.size, al_at _ _⟩
    exact trivial
  · intro f w5 hb5 hG
    obtain ⟨⟨⟨cv, cm⟩, ⟨cl, ch, ci, cj⟩⟩, e71, hc⟩ : ∃ c : Sc, f 71 = c.val ∧ ∀ d, ruleT op side ⟨⟨v, m⟩, ⟨lo, hi, sl, sh⟩⟩ ⟨⟨xv, xm⟩, ⟨xlo, xhi, xsl, xsh⟩⟩ = some d → c = d := hG 12 _ 71 (by decide) rfl rfl
    have e72 : f 72 = .bool (ruleT op side ⟨⟨v, m⟩, ⟨lo, hi, sl, sh⟩⟩ ⟨⟨xv, xm⟩, ⟨xlo, xhi, xsl, xsh⟩⟩).isSome := hG 13 _ 72 (by decide) rfl rfl
    obtain ⟨k, e17, hk1, hk2⟩ : ∃ k, f 17 = .pointer (some ⟨k, 0, none⟩) ∧ wr.heap.size ≤ k ∧ w5.heap[k]? = some (.cells #[.int .u64 0, .int .u64 0, .int .u64 0, .int .u64 0, .int .i64 0, .int .i64 0] 28) := hG 14 _ 17 (by decide) rfl rfl
    simp only [Sc.val] at e71
    obtain ⟨gb, hgb⟩ : ∃ b, b = (ruleT op side ⟨⟨v, m⟩, ⟨lo, hi, sl, sh⟩⟩ ⟨⟨xv, xm⟩, ⟨xlo, xhi, xsl, xsh⟩⟩).isSome := ⟨_, rfl⟩
    rw [← hgb] at e72 HQ
    obtain ⟨cT0, cT1, cT2, cT3, cT4, cT5⟩ := c6_of hk2
    obtain ⟨fT0, fT1, fT2, fT3, fT4, fT5⟩ := f6_of hk2
    have zT := lt_of hk2
    have HC := Lib.hid hc
    have HK1 := Lib.hid hk1
    have HK2 := Lib.hid hk2
    have HB5 := Lib.hid hb5
    clear hG hb5 hc hk1 hk2 hgb
    simp only [List.drop_succ_cons, List.drop_zero]
    show wpListIn _ _ _ _ _ _ { tmps := List.toArray (u0 :: u1 :: u2 :: u3 :: u4 :: .pointer (some ⟨O, 0, none⟩) :: u6 :: u7 :: u8 :: u9 :: u10 :: u11 :: u12 :: u13 :: u14 :: .int .i64 (x : Int) :: .pointer (some ⟨pb, 0, none⟩) :: f 17 :: u18 :: u19 :: u20 :: u21 :: u22 :: u23 :: u24 :: u25 :: u26 :: u27 :: u28 :: u29 :: u30 :: u31 :: u32 :: u33 :: u34 :: u35 :: u36 :: u37 :: u38 :: u39 :: u40 :: u41 :: u42 :: u43 :: u44 :: u45 :: u46 :: u47 :: u48 :: u49 :: u50 :: u51 :: u52 :: u53 :: u54 :: u55 :: u56 :: u57 :: u58 :: f 59 :: f 60 :: f 61 :: f 62 :: f 63 :: f 64 :: f 65 :: f 66 :: f 67 :: f 68 :: f 69 :: f 70 :: f 71 :: f 72 :: u73 :: u74 :: u75 :: u76 :: u77 :: u78 :: u79 :: u80 :: u81 :: u82 :: u83 :: []), defers := [] } _
    gi_wp2
    rw [e17, e72]
    exact HQ.out _ _ _ _ _ _ _ _ _ _ _ _ _ _ _ k ⟨⟨cv, cm⟩, ⟨cl, ch, ci, cj⟩⟩ (by have h := HK1.out; repeat (first | with_reducible exact HB5.out | (with_reducible refine But.setCell ?_ (.inr ?_) _; rotate_left; (simp only []; omega)))) HK1.out (set6 HK2.out) HC.out
  · intro om ol h1 h2 f w5 hb5 hG
    simp only [List.getElem?_cons_succ, List.getElem?_cons_zero, Option.some.injEq] at h1 h2
    subst h1
    subst h2
    obtain ⟨⟨⟨cv, cm⟩, ⟨cl, ch, ci, cj⟩⟩, e71, hc⟩ : ∃ c : Sc, f 71 = c.val ∧ ∀ d, ruleT op side ⟨⟨v, m⟩, ⟨lo, hi, sl, sh⟩⟩ ⟨⟨xv, xm⟩, ⟨xlo, xhi, xsl, xsh⟩⟩ = some d → c = d := hG 12 _ 71 (by decide) (by decide) rfl rfl
    obtain ⟨c2, e59, _⟩ : TupG (ruleT op side ⟨⟨v, m⟩, ⟨lo, hi, sl, sh⟩⟩ ⟨⟨xv, xm⟩, ⟨xlo, xhi, xsl, xsh⟩⟩) (f 59) := hG 11 _ 59 (by decide) (by decide) rfl rfl
    obtain ⟨k, e17, hk1, hk2⟩ : ∃ k, f 17 = .pointer (some ⟨k, 0, none⟩) ∧ wr.heap.size ≤ k ∧ w5.heap[k]? = some (.cells #[.int .u64 0, .int .u64 0, .int .u64 0, .int .u64 0, .int .i64 0, .int .i64 0] 28) := hG 14 _ 17 (by decide) (by decide) rfl rfl
    simp only [Sc.val] at e71
    obtain ⟨gb, hgb⟩ : ∃ b, b = (ruleT op side ⟨⟨v, m⟩, ⟨lo, hi, sl, sh⟩⟩ ⟨⟨xv, xm⟩, ⟨xlo, xhi, xsl, xsh⟩⟩).isSome := ⟨_, rfl⟩
    rw [← hgb] at e59 HQ
    obtain ⟨cT0, cT1, cT2, cT3, cT4, cT5⟩ := c6_of hk2
    obtain ⟨fT0, fT1, fT2, fT3, fT4, fT5⟩ := f6_of hk2
    have zT := lt_of hk2
    have HC := Lib.hid hc
    have HK1 := Lib.hid hk1
    have HK2 := Lib.hid hk2
    have HB5 := Lib.hid hb5
    clear hG hb5 hc hk1 hk2 hgb
    simp only [List.drop_succ_cons, List.drop_zero]
    show wpListIn _ _ _ _ _ _ { tmps := List.toArray (u0 :: u1 :: u2 :: u3 :: u4 :: .pointer (some ⟨O, 0, none⟩) :: u6 :: u7 :: u8 :: u9 :: u10 :: u11 :: u12 :: u13 :: u14 :: .int .i64 (x : Int) :: .pointer (some ⟨pb, 0, none⟩) :: f 17 :: u18 :: u19 :: u20 :: u21 :: u22 :: u23 :: u24 :: u25 :: u26 :: u27 :: u28 :: u29 :: u30 :: u31 :: u32 :: u33 :: u34 :: u35 :: u36 :: u37 :: u38 :: u39 :: u40 :: u41 :: u42 :: u43 :: u44 :: u45 :: u46 :: u47 :: u48 :: u49 :: u50 :: u51 :: u52 :: u53 :: u54 :: u55 :: u56 :: u57 :: u58 :: f 59 :: f 60 :: f 61 :: f 62 :: f 63 :: f 64 :: f 65 :: f 66 :: f 67 :: f 68 :: f 69 :: f 70 :: f 71 :: f 72 :: u73 :: u74 :: u75 :: u76 :: u77 :: u78 :: u79 :: u80 :: u81 :: u82 :: u83 :: []), defers := [] } _
    gi_wp2
    rw [e17]
    exact HQ.out _ _ _ _ _ _ _ _ _ _ _ _ _ _ _ k ⟨⟨cv, cm⟩, ⟨cl, ch, ci, cj⟩⟩ (by have h := HK1.out; repeat (first | with_reducible exact HB5.out | (with_reducible refine But.setCell ?_ (.inr ?_) _; rotate_left; (simp only []; omega)))) HK1.out (set6 HK2.out) HC.out
end Go.Proofs.Ytmbmmcippglfoaa.M
