/-
  WordEnds: its region of 47 operations, in whatever order (printed by mkends.py).
-/
import Derived.Test.YtlhegejfaihgmaaEndsA
import Derived.Test.YtlhegejfaihgmaaFlowG
import Derived.Deep.DrawnRows
namespace Go.Proofs.Ytlhegejfaihgmaa.M
open Go.RowKit
set_option linter.unusedVariables false
set_option linter.unusedSectionVars false
set_option linter.unusedSimpArgs false
/-- The block of a code that bears a number. -/
def regionOf (n : Nat) : Code → Option Code
  | .region k ops b => if k = n then some (.region k ops b) else none
  | .seq a b => match regionOf n a with
    | some c => some c
    | none => regionOf n b
  | .block _ c => regionOf n c
  | .loop c => regionOf n c
  | .scope c => regionOf n c
  | .cond _ a b => match regionOf n a with
    | some c => some c
    | none => regionOf n b
  | _ => none
noncomputable def code_e19 : Code := ((Try.f3.body.getD .skip |> regionOf 19).getD .skip)
/-- A row of five that was just laid; a place in it. -/
def SL (p : Nat) (z : Int) (v : Value) (w : World) : Prop := ∃ g, v = .slice (some ⟨g, 0, none⟩) 5 5 ∧ w.cell? ⟨g, p, none⟩ = some (.int .i64 z)
def SP (p : Nat) (z : Int) (v : Value) (w : World) : Prop := ∃ g, v = .pointer (some ⟨g, p, none⟩) ∧ w.cell? ⟨g, p, none⟩ = some (.int .i64 z)
theorem ok_cell {w w' : World} {p : Addr} {u : Value} (h : w.cell? p = some u) (hk : Sp.Ok w w') : w'.cell? p = some u := by
  rw [Below.cell hk (cell_lt h)]
  exact h
theorem SL.keep {p : Nat} {z : Int} {v : Value} {w w' : World} (h : SL p z v w) (hk : Sp.Ok w w') : SL p z v w' := by
  obtain ⟨g, h1, h2⟩ := h
  exact ⟨g, h1, ok_cell h2 hk⟩
theorem SP.keep {p : Nat} {z : Int} {v : Value} {w w' : World} (h : SP p z v w) (hk : Sp.Ok w w') : SP p z v w' := by
  obtain ⟨g, h1, h2⟩ := h
  exact ⟨g, h1, ok_cell h2 hk⟩
def VE (B1 : Nat) (o : Int) (i k : Nat) (x y q d : Int) (p : Nat) (v1 v2 : Int) : List Value := [.int .i64 o, .int .u8 o, .slice (some ⟨B1, 0, none⟩) 25 25, .int .i64 (i : Int), .pointer (some ⟨B1, i, none⟩), .int .u64 x, .slice (some ⟨B1, 0, none⟩) 25 25, .int .i64 (k : Int), .pointer (some ⟨B1, k, none⟩), .int .u64 y, .int .i64 (i : Int), .int .i64 q, .int .i64 d, undef, .int .i64 (k : Int), .int .i64 (p : Int), undef, .int .i64 v1, .int .i64 o, .bool (o == 0), .bool true, .bool false, .bool false, .int .i64 o, .int .u8 o, .slice (some ⟨B1, 0, none⟩) 25 25, .int .i64 (i : Int), .pointer (some ⟨B1, i, none⟩), .int .u64 x, .slice (some ⟨B1, 0, none⟩) 25 25, .int .i64 (k : Int), .pointer (some ⟨B1, k, none⟩), .int .u64 y, .int .i64 (i : Int), .int .i64 q, .int .i64 d, undef, .int .i64 (k : Int), .int .i64 (p : Int), undef, .int .i64 v2, .int .i64 (i : Int), .int .i64 (Int.tmod (i : Int) 2), .bool (Int.tmod (i : Int) 2 == 0), .bool true, .bool false]
/-- What each operation comes to. -/
def GE (V : List Value) (p : Nat) (v1 v2 : Int) : Nat → Value → World → Prop
  | 13, v, w => SL p v1 v w
  | 16, v, w => SP p v1 v w
  | 36, v, w => SL p v2 v w
  | 39, v, w => SP p v2 v w
  | i, v, w => GV V i v w
theorem GE_keep {V : List Value} {p : Nat} {v1 v2 : Int} (i : Nat) (v : Value) (w w' : World) (h : GE V p v1 v2 i v w) (hk : Sp.Ok w w') : GE V p v1 v2 i v w' := by
  unfold GE at h ⊢
  split <;> simp only at h
  · exact h.keep hk
  · exact h.keep hk
  · exact h.keep hk
  · exact h.keep hk
  · exact h
set_option maxRecDepth 100000 in
set_option maxHeartbeats 8000000 in
theorem ends19 (Q : Exit → Act → World → Prop) {w0 wn : World} {B1 B2 : Nat} (HRN : Hid (Rows2 w0 wn B1 B2)) {o : Int} (HWO : Hid ((Lit.int .u8 o).wf = true)) (ho3 : IntKind.u8.wrap o = o) {i k : Nat} (hi0 : (0 : Int) ≤ (i : Int)) (hi1 : (i : Int) < 25) (hk0 : (0 : Int) ≤ (k : Int)) (hk1 : (k : Int) < 25)
    {x y : Int} (HX : Hid (lsI[i]? = some x)) (HY : Hid (lsI[k]? = some y)) (HXW : Hid ((Lit.int .u64 x).wf = true)) (HYW : Hid ((Lit.int .u64 y).wf = true)) {q d : Int} (e1 : Int.tmod (i : Int) 4 = q) (e2 : q - 1 = d) (e3 : wrap64 d = d) (e4 : IntKind.i64.wrap d = d) (HDW : Hid ((Lit.int .i64 d).wf = true))
    {p : Nat} {v1 v2 : Int} (f1 : Int.tmod (k : Int) 5 = (p : Int)) (f2 : (0 : Int) ≤ (p : Int)) (f3 : (p : Int) < 5) (HV1 : Hid ((#[Value.int .i64 16, .int .i64 32, .int .i64 64, .int .i64 8, .int .i64 0] : Array Value)[p]? = some (.int .i64 v1))) (HV2 : Hid ((#[Value.int .i64 1, .int .i64 2, .int .i64 4, .int .i64 8, .int .i64 3] : Array Value)[p]? = some (.int .i64 v2))) (HW1 : Hid ((Lit.int .i64 v1).wf = true)) (HW2 : Hid ((Lit.int .i64 v2).wf = true))
    {u0 u2 u6 u7 u8 u9 u10 u11 u12 u13 u14 u15 u16 u17 u18 u19 u20 u21 u22 u23 u24 u25 u26 u27 u28 u29 u30 u31 u32 u33 u34 u35 u36 u37 u38 u39 u40 u41 u42 u43 u44 u45 u46 u47 u48 u49 u50 u51 u52 u53 u54 u55 u56 u57 u58 u59 u60 u61 u62 u63 u64 u65 u66 u67 u68 u69 u70 u71 u72 u73 u74 u75 u76 u77 u78 u79 u80 u81 u82 u83 u84 u85 u86 u87 u88 u89 u90 u91 u92 u93 u94 u95 u96 u97 u98 u99 u100 u101 u102 u103 u104 u105 u106 u107 u108 u109 u110 u111 u112 u113 u114 u115 u116 u117 u118 u119 : Value} (hQ : ∀ (z73 z74 z75 z76 z77 z78 z79 z80 z81 z82 z83 z84 z85 z86 z87 z88 z89 z90 z91 z92 z93 z94 z95 z96 z97 z98 z99 z100 z101 z102 z103 z104 z105 z106 z107 z108 z109 z110 z111 z112 z113 z114 z115 z116 z117 z118 : Value) (w5 : World), Rows2 w0 w5 B1 B2 → Q .normal { tmps := List.toArray (u0 :: .slice (some ⟨B1, 0, none⟩) 25 25 :: u2 :: .int .i64 o :: .int .i64 (i : Int) :: .int .i64 (k : Int) :: u6 :: u7 :: u8 :: u9 :: u10 :: u11 :: u12 :: u13 :: u14 :: u15 :: u16 :: u17 :: u18 :: u19 :: u20 :: u21 :: u22 :: u23 :: u24 :: u25 :: u26 :: u27 :: u28 :: u29 :: u30 :: u31 :: u32 :: u33 :: u34 :: u35 :: u36 :: u37 :: u38 :: u39 :: u40 :: u41 :: u42 :: u43 :: u44 :: u45 :: u46 :: u47 :: u48 :: u49 :: u50 :: u51 :: u52 :: u53 :: u54 :: u55 :: u56 :: u57 :: u58 :: u59 :: u60 :: u61 :: u62 :: u63 :: u64 :: u65 :: u66 :: u67 :: u68 :: u69 :: u70 :: u71 :: u72 :: z73 :: z74 :: z75 :: z76 :: z77 :: z78 :: z79 :: z80 :: z81 :: z82 :: z83 :: z84 :: z85 :: z86 :: z87 :: z88 :: z89 :: z90 :: z91 :: z92 :: z93 :: z94 :: z95 :: z96 :: z97 :: z98 :: z99 :: z100 :: z101 :: z102 :: z103 :: z104 :: z105 :: z106 :: z107 :: z108 :: z109 :: z110 :: z111 :: z112 :: z113 :: z114 :: z115 :: z116 :: z117 :: z118 :: .bool false :: []), defers := [] } w5) :
    Code.wp Try.prog code_e19 Q { tmps := List.toArray (u0 :: .slice (some ⟨B1, 0, none⟩) 25 25 :: u2 :: .int .i64 o :: .int .i64 (i : Int) :: .int .i64 (k : Int) :: u6 :: u7 :: u8 :: u9 :: u10 :: u11 :: u12 :: u13 :: u14 :: u15 :: u16 :: u17 :: u18 :: u19 :: u20 :: u21 :: u22 :: u23 :: u24 :: u25 :: u26 :: u27 :: u28 :: u29 :: u30 :: u31 :: u32 :: u33 :: u34 :: u35 :: u36 :: u37 :: u38 :: u39 :: u40 :: u41 :: u42 :: u43 :: u44 :: u45 :: u46 :: u47 :: u48 :: u49 :: u50 :: u51 :: u52 :: u53 :: u54 :: u55 :: u56 :: u57 :: u58 :: u59 :: u60 :: u61 :: u62 :: u63 :: u64 :: u65 :: u66 :: u67 :: u68 :: u69 :: u70 :: u71 :: u72 :: u73 :: u74 :: u75 :: u76 :: u77 :: u78 :: u79 :: u80 :: u81 :: u82 :: u83 :: u84 :: u85 :: u86 :: u87 :: u88 :: u89 :: u90 :: u91 :: u92 :: u93 :: u94 :: u95 :: u96 :: u97 :: u98 :: u99 :: u100 :: u101 :: u102 :: u103 :: u104 :: u105 :: u106 :: u107 :: u108 :: u109 :: u110 :: u111 :: u112 :: u113 :: u114 :: u115 :: u116 :: u117 :: u118 :: u119 :: []), defers := [] } wn := by
  have HQ := Lib.hid hQ
  clear hQ
  conv => arg 2; whnf
  refine wp_region_flowS 46 (by decide) (by kernel_rfl) Sp.Ok (fun _ _ _ h1 h2 => h1.trans h2) (Sp.Ok.drew (Sp.Ok.refl _)) (GE (VE B1 o i k x y q d p v1 v2) p v1 v2) [[], [(0, 73)], [], [], [(2, 75), (3, 76)], [(4, 77)], [], [], [(6, 79), (7, 80)], [(8, 81)], [], [(10, 83)], [(11, 84)], [], [], [(14, 87)], [(13, 86), (15, 88)], [(16, 89)], [], [(18, 91)], [(1, 74), (5, 78), (9, 82), (12, 85), (17, 90), (19, 92)], [(20, 93)], [(21, 94)], [(22, 95)], [(22, 95), (23, 96)], [(22, 95)], [(22, 95)], [(22, 95), (25, 98), (26, 99)], [(22, 95), (27, 100)], [(22, 95)], [(22, 95)], [(22, 95), (29, 102), (30, 103)], [(22, 95), (31, 104)], [(22, 95)], [(22, 95), (33, 106)], [(22, 95), (34, 107)], [(22, 95)], [(22, 95)], [(22, 95), (37, 110)], [(22, 95), (36, 109), (38, 111)], [(22, 95), (39, 112)], [(22, 95)], [(22, 95), (41, 114)], [(22, 95), (42, 115)], [(22, 95), (24, 97), (28, 101), (32, 105), (35, 108), (40, 113), (43, 116)], [(22, 95), (44, 117)]] [[(3, .int .i64 o)], [], [(1, .slice (some ⟨B1, 0, none⟩) 25 25)], [(4, .int .i64 (i : Int))], [], [], [(1, .slice (some ⟨B1, 0, none⟩) 25 25)], [(5, .int .i64 (k : Int))], [], [], [(4, .int .i64 (i : Int))], [], [], [], [(5, .int .i64 (k : Int))], [], [], [], [(3, .int .i64 o)], [], [], [], [], [(3, .int .i64 o)], [], [(1, .slice (some ⟨B1, 0, none⟩) 25 25)], [(4, .int .i64 (i : Int))], [], [], [(1, .slice (some ⟨B1, 0, none⟩) 25 25)], [(5, .int .i64 (k : Int))], [], [], [(4, .int .i64 (i : Int))], [], [], [], [(5, .int .i64 (k : Int))], [], [], [], [(4, .int .i64 (i : Int))], [], [], [], []] (by kernel_rfl) (by kernel_rfl) (by kernel_rfl) (by kernel_rfl) ?_ (fun j v w w' _ h hk => GE_keep j v w w' h hk) [none, none, none, none, none, none, none, none, none, none, none, none, none, none, none, none, none, none, none, none, none, none, none, none, none, none, none, none, none, none, none, none, none, none, none, none, none, none, none, none, none, none, none, none, none, none, none, none, none, none, none, none, none, none, none, none, none, none, none, none, none, none, none, none, none, none, none, none, none, none, none, none, none, some 73, some 74, some 75, some 76, some 77, some 78, some 79, some 80, some 81, some 82, some 83, some 84, some 85, some 86, some 87, some 88, some 89, some 90, some 91, some 92, some 93, some 94, some 95, some 96, some 97, some 98, some 99, some 100, some 101, some 102, some 103, some 104, some 105, some 106, some 107, some 108, some 109, some 110, some 111, some 112, some 113, some 114, some 115, some 116, some 117, some 118, none] (by kernel_rfl) (by rfl) ?_ ?_
  · exact ⟨⟨rfl, trivial⟩, trivial, ⟨rfl, trivial⟩, ⟨rfl, trivial⟩, trivial, trivial, ⟨rfl, trivial⟩, ⟨rfl, trivial⟩, trivial, trivial, ⟨rfl, trivial⟩, trivial, trivial, trivial, ⟨rfl, trivial⟩, trivial, trivial, trivial, ⟨rfl, trivial⟩, trivial, trivial, trivial, trivial, ⟨rfl, trivial⟩, trivial, ⟨rfl, trivial⟩, ⟨rfl, trivial⟩, trivial, trivial, ⟨rfl, trivial⟩, ⟨rfl, trivial⟩, trivial, trivial, ⟨rfl, trivial⟩, trivial, trivial, trivial, ⟨rfl, trivial⟩, trivial, trivial, trivial, ⟨rfl, trivial⟩, trivial, trivial, trivial, trivial, trivial⟩
  · simp only [List.take_succ_cons, List.take_zero]
    -- 73
    refine ⟨fun a9 w9 hR hk hf => ?_, ?_⟩
    · simp only [KnowF, FreeF, and_true] at hk hf
      have e3 : a9.tmps[3]?.getD undef = .int .i64 o := freeF_ev hf
      exact flow_on (rfl) (flow_run (v := .int .i64 o) (by go_simp) (Sp.Ok.refl _) (show GV (VE B1 o i k x y q d p v1 v2) 0 (.int .i64 o) w9 from GV.of rfl))
    -- 74
    refine ⟨fun a9 w9 hR hk hf => ?_, ?_⟩
    · simp only [KnowF, FreeF, and_true] at hk hf
      have e73 := (show GV (VE B1 o i k x y q d p v1 v2) 0 (a9.eval (.tmp 73)) w9 from hk).ev (v := .int .i64 o) rfl
      exact flow_on (rfl) (flow_run (v := .int .u8 o) (by go_simp) (Sp.Ok.refl _) (show GV (VE B1 o i k x y q d p v1 v2) 1 (.int .u8 o) w9 from GV.of rfl))
    -- 75
    refine ⟨fun a9 w9 hR hk hf => ?_, ?_⟩
    · simp only [KnowF, FreeF, and_true] at hk hf
      have e1 : a9.tmps[1]?.getD undef = .slice (some ⟨B1, 0, none⟩) 25 25 := freeF_ev hf
      exact flow_on (rfl) (flow_run (v := .slice (some ⟨B1, 0, none⟩) 25 25) (by go_simp) (Sp.Ok.refl _) (show GV (VE B1 o i k x y q d p v1 v2) 2 (.slice (some ⟨B1, 0, none⟩) 25 25) w9 from GV.of rfl))
    -- 76
    refine ⟨fun a9 w9 hR hk hf => ?_, ?_⟩
    · simp only [KnowF, FreeF, and_true] at hk hf
      have e4 : a9.tmps[4]?.getD undef = .int .i64 (i : Int) := freeF_ev hf
      exact flow_on (rfl) (flow_run (v := .int .i64 (i : Int)) (by go_simp) (Sp.Ok.refl _) (show GV (VE B1 o i k x y q d p v1 v2) 3 (.int .i64 (i : Int)) w9 from GV.of rfl))
    -- 77
    refine ⟨fun a9 w9 hR hk hf => ?_, ?_⟩
    · simp only [KnowF, FreeF, and_true] at hk hf
      have e75 := (show GV (VE B1 o i k x y q d p v1 v2) 2 (a9.eval (.tmp 75)) w9 from hk.1).ev (v := .slice (some ⟨B1, 0, none⟩) 25 25) rfl
      have e76 := (show GV (VE B1 o i k x y q d p v1 v2) 3 (a9.eval (.tmp 76)) w9 from hk.2).ev (v := .int .i64 (i : Int)) rfl
      exact flow_on (rfl) (flow_run (v := .pointer (some ⟨B1, i, none⟩)) (by go_simp) (Sp.Ok.refl _) (show GV (VE B1 o i k x y q d p v1 v2) 4 (.pointer (some ⟨B1, i, none⟩)) w9 from GV.of rfl))
    -- 78
    refine ⟨fun a9 w9 hR hk hf => ?_, ?_⟩
    · simp only [KnowF, FreeF, and_true] at hk hf
      have e77 := (show GV (VE B1 o i k x y q d p v1 v2) 4 (a9.eval (.tmp 77)) w9 from hk).ev (v := .pointer (some ⟨B1, i, none⟩)) rfl
      have hcl := (HRN.out.step hR).l HX.out
      exact flow_on (rfl) (flow_run (v := .int .u64 x) (by go_simp) (Sp.Ok.refl _) (show GV (VE B1 o i k x y q d p v1 v2) 5 (.int .u64 x) w9 from GV.of rfl))
    -- 79
    refine ⟨fun a9 w9 hR hk hf => ?_, ?_⟩
    · simp only [KnowF, FreeF, and_true] at hk hf
      have e1 : a9.tmps[1]?.getD undef = .slice (some ⟨B1, 0, none⟩) 25 25 := freeF_ev hf
      exact flow_on (rfl) (flow_run (v := .slice (some ⟨B1, 0, none⟩) 25 25) (by go_simp) (Sp.Ok.refl _) (show GV (VE B1 o i k x y q d p v1 v2) 6 (.slice (some ⟨B1, 0, none⟩) 25 25) w9 from GV.of rfl))
    -- 80
    refine ⟨fun a9 w9 hR hk hf => ?_, ?_⟩
    · simp only [KnowF, FreeF, and_true] at hk hf
      have e5 : a9.tmps[5]?.getD undef = .int .i64 (k : Int) := freeF_ev hf
      exact flow_on (rfl) (flow_run (v := .int .i64 (k : Int)) (by go_simp) (Sp.Ok.refl _) (show GV (VE B1 o i k x y q d p v1 v2) 7 (.int .i64 (k : Int)) w9 from GV.of rfl))
    -- 81
    refine ⟨fun a9 w9 hR hk hf => ?_, ?_⟩
    · simp only [KnowF, FreeF, and_true] at hk hf
      have e79 := (show GV (VE B1 o i k x y q d p v1 v2) 6 (a9.eval (.tmp 79)) w9 from hk.1).ev (v := .slice (some ⟨B1, 0, none⟩) 25 25) rfl
      have e80 := (show GV (VE B1 o i k x y q d p v1 v2) 7 (a9.eval (.tmp 80)) w9 from hk.2).ev (v := .int .i64 (k : Int)) rfl
      exact flow_on (rfl) (flow_run (v := .pointer (some ⟨B1, k, none⟩)) (by go_simp) (Sp.Ok.refl _) (show GV (VE B1 o i k x y q d p v1 v2) 8 (.pointer (some ⟨B1, k, none⟩)) w9 from GV.of rfl))
    -- 82
    refine ⟨fun a9 w9 hR hk hf => ?_, ?_⟩
    · simp only [KnowF, FreeF, and_true] at hk hf
      have e81 := (show GV (VE B1 o i k x y q d p v1 v2) 8 (a9.eval (.tmp 81)) w9 from hk).ev (v := .pointer (some ⟨B1, k, none⟩)) rfl
      have hcl := (HRN.out.step hR).l HY.out
      exact flow_on (rfl) (flow_run (v := .int .u64 y) (by go_simp) (Sp.Ok.refl _) (show GV (VE B1 o i k x y q d p v1 v2) 9 (.int .u64 y) w9 from GV.of rfl))
    -- 83
    refine ⟨fun a9 w9 hR hk hf => ?_, ?_⟩
    · simp only [KnowF, FreeF, and_true] at hk hf
      have e4 : a9.tmps[4]?.getD undef = .int .i64 (i : Int) := freeF_ev hf
      exact flow_on (rfl) (flow_run (v := .int .i64 (i : Int)) (by go_simp) (Sp.Ok.refl _) (show GV (VE B1 o i k x y q d p v1 v2) 10 (.int .i64 (i : Int)) w9 from GV.of rfl))
    -- 84
    refine ⟨fun a9 w9 hR hk hf => ?_, ?_⟩
    · simp only [KnowF, FreeF, and_true] at hk hf
      have e83 := (show GV (VE B1 o i k x y q d p v1 v2) 10 (a9.eval (.tmp 83)) w9 from hk).ev (v := .int .i64 (i : Int)) rfl
      exact flow_on (rfl) (flow_run (v := .int .i64 q) (by go_simp) (Sp.Ok.refl _) (show GV (VE B1 o i k x y q d p v1 v2) 11 (.int .i64 q) w9 from GV.of rfl))
    -- 85
    refine ⟨fun a9 w9 hR hk hf => ?_, ?_⟩
    · simp only [KnowF, FreeF, and_true] at hk hf
      have e84 := (show GV (VE B1 o i k x y q d p v1 v2) 11 (a9.eval (.tmp 84)) w9 from hk).ev (v := .int .i64 q) rfl
      exact flow_on (rfl) (flow_run (v := .int .i64 d) (by go_simp) (Sp.Ok.refl _) (show GV (VE B1 o i k x y q d p v1 v2) 12 (.int .i64 d) w9 from GV.of rfl))
    -- 86
    refine ⟨fun a9 w9 hR hk hf => ?_, ?_⟩
    · simp only [KnowF, FreeF, and_true] at hk hf
      exact flow_on (rfl) (flow_run (v := .slice (some ⟨w9.heap.size, 0, none⟩) 5 5) (w' := w9.alloc (.cells #[.int .i64 16, .int .i64 32, .int .i64 64, .int .i64 8, .int .i64 0] 3)) (by go_simp) (Below.alloc (Below.refl _ _) (Nat.le_refl _) _) (show SL p v1 _ _ from ⟨_, rfl, by rw [cl_of (al_at w9 _)]; exact HV1.out⟩))
    -- 87
    refine ⟨fun a9 w9 hR hk hf => ?_, ?_⟩
    · simp only [KnowF, FreeF, and_true] at hk hf
      have e5 : a9.tmps[5]?.getD undef = .int .i64 (k : Int) := freeF_ev hf
      exact flow_on (rfl) (flow_run (v := .int .i64 (k : Int)) (by go_simp) (Sp.Ok.refl _) (show GV (VE B1 o i k x y q d p v1 v2) 14 (.int .i64 (k : Int)) w9 from GV.of rfl))
    -- 88
    refine ⟨fun a9 w9 hR hk hf => ?_, ?_⟩
    · simp only [KnowF, FreeF, and_true] at hk hf
      have e87 := (show GV (VE B1 o i k x y q d p v1 v2) 14 (a9.eval (.tmp 87)) w9 from hk).ev (v := .int .i64 (k : Int)) rfl
      exact flow_on (rfl) (flow_run (v := .int .i64 (p : Int)) (by go_simp) (Sp.Ok.refl _) (show GV (VE B1 o i k x y q d p v1 v2) 15 (.int .i64 (p : Int)) w9 from GV.of rfl))
    -- 89
    refine ⟨fun a9 w9 hR hk hf => ?_, ?_⟩
    · simp only [KnowF, FreeF, and_true] at hk hf
      obtain ⟨g, hg, hc⟩ := (show SL p v1 (a9.eval (.tmp 86)) w9 from hk.1)
      have e86 := freeF_ev hg
      have e88 := (show GV (VE B1 o i k x y q d p v1 v2) 15 (a9.eval (.tmp 88)) w9 from hk.2).ev (v := .int .i64 (p : Int)) rfl
      exact flow_on (rfl) (flow_run (v := .pointer (some ⟨g, p, none⟩)) (by go_simp) (Sp.Ok.refl _) (show SP p v1 _ _ from ⟨g, rfl, hc⟩))
    -- 90
    refine ⟨fun a9 w9 hR hk hf => ?_, ?_⟩
    · simp only [KnowF, FreeF, and_true] at hk hf
      obtain ⟨g, hg, hc⟩ := (show SP p v1 (a9.eval (.tmp 89)) w9 from hk)
      have e89 := freeF_ev hg
      exact flow_on (rfl) (flow_run (v := .int .i64 v1) (by go_simp) (Sp.Ok.refl _) (show GV (VE B1 o i k x y q d p v1 v2) 17 (.int .i64 v1) w9 from GV.of rfl))
    -- 91
    refine ⟨fun a9 w9 hR hk hf => ?_, ?_⟩
    · simp only [KnowF, FreeF, and_true] at hk hf
      have e3 : a9.tmps[3]?.getD undef = .int .i64 o := freeF_ev hf
      exact flow_on (rfl) (flow_run (v := .int .i64 o) (by go_simp) (Sp.Ok.refl _) (show GV (VE B1 o i k x y q d p v1 v2) 18 (.int .i64 o) w9 from GV.of rfl))
    -- 92
    refine ⟨fun a9 w9 hR hk hf => ?_, ?_⟩
    · simp only [KnowF, FreeF, and_true] at hk hf
      have e91 := (show GV (VE B1 o i k x y q d p v1 v2) 18 (a9.eval (.tmp 91)) w9 from hk).ev (v := .int .i64 o) rfl
      exact flow_on (rfl) (flow_run (v := .bool (o == 0)) (by go_simp) (Sp.Ok.refl _) (show GV (VE B1 o i k x y q d p v1 v2) 19 (.bool (o == 0)) w9 from GV.of rfl))
    -- 93
    refine ⟨fun a9 w9 hR hk hf => ?_, ?_⟩
    · simp only [KnowF, FreeF, and_true] at hk hf
      have e74 := (show GV (VE B1 o i k x y q d p v1 v2) 1 (a9.eval (.tmp 74)) w9 from hk.1).ev (v := .int .u8 o) rfl
      have e78 := (show GV (VE B1 o i k x y q d p v1 v2) 5 (a9.eval (.tmp 78)) w9 from hk.2.1).ev (v := .int .u64 x) rfl
      have e82 := (show GV (VE B1 o i k x y q d p v1 v2) 9 (a9.eval (.tmp 82)) w9 from hk.2.2.1).ev (v := .int .u64 y) rfl
      have e85 := (show GV (VE B1 o i k x y q d p v1 v2) 12 (a9.eval (.tmp 85)) w9 from hk.2.2.2.1).ev (v := .int .i64 d) rfl
      have e90 := (show GV (VE B1 o i k x y q d p v1 v2) 17 (a9.eval (.tmp 90)) w9 from hk.2.2.2.2.1).ev (v := .int .i64 v1) rfl
      have e92 := (show GV (VE B1 o i k x y q d p v1 v2) 19 (a9.eval (.tmp 92)) w9 from hk.2.2.2.2.2).ev (v := .bool (o == 0)) rfl
      exact flow_on (rfl) (flow_call (f := 6) (args := #[.int .u8 o, .bool true, .int .u64 x, .int .u64 y, .int .i64 d, .int .i64 v1, .bool (o == 0)]) (by go_simp) ((callW w9 _ _ HWO.out HXW.out HYW.out HDW.out HW1.out).mono (by rintro e w' ⟨rfl, hb⟩; exact ⟨_, rfl, hb, (show GV (VE B1 o i k x y q d p v1 v2) 20 (.bool true) w' from GV.of rfl)⟩)))
    -- 94
    refine ⟨fun a9 w9 hR hk hf => ?_, ?_⟩
    · simp only [KnowF, FreeF, and_true] at hk hf
      have e93 := (show GV (VE B1 o i k x y q d p v1 v2) 20 (a9.eval (.tmp 93)) w9 from hk).ev (v := .bool true) rfl
      exact flow_on (rfl) (flow_run (v := .bool false) (by go_simp) (Sp.Ok.refl _) (show GV (VE B1 o i k x y q d p v1 v2) 21 (.bool false) w9 from GV.of rfl))
    -- 95
    refine ⟨fun a9 w9 hR hk hf => ?_, ?_⟩
    · simp only [KnowF, FreeF, and_true] at hk hf
      have e94 := (show GV (VE B1 o i k x y q d p v1 v2) 21 (a9.eval (.tmp 94)) w9 from hk).ev (v := .bool false) rfl
      exact flow_on (rfl) (flow_run (v := .bool false) (by go_simp) (Sp.Ok.refl _) (show GV (VE B1 o i k x y q d p v1 v2) 22 (.bool false) w9 from GV.of rfl))
    -- 96
    refine ⟨fun a9 w9 hR hk hf => ?_, ?_⟩
    · simp only [KnowF, FreeF, and_true] at hk hf
      have hgd := (show GV (VE B1 o i k x y q d p v1 v2) 22 (a9.eval (.tmp 95)) w9 from hk).eval (v := .bool false) rfl
      have e3 : a9.tmps[3]?.getD undef = .int .i64 o := freeF_ev hf
      exact flow_on (wanted_at (j := 22) (b := false) (s := 95) rfl rfl hgd) (flow_run (v := .int .i64 o) (by go_simp) (Sp.Ok.refl _) (show GV (VE B1 o i k x y q d p v1 v2) 23 (.int .i64 o) w9 from GV.of rfl))
    -- 97
    refine ⟨fun a9 w9 hR hk hf => ?_, ?_⟩
    · simp only [KnowF, FreeF, and_true] at hk hf
      have hgd := (show GV (VE B1 o i k x y q d p v1 v2) 22 (a9.eval (.tmp 95)) w9 from hk.1).eval (v := .bool false) rfl
      have e96 := (show GV (VE B1 o i k x y q d p v1 v2) 23 (a9.eval (.tmp 96)) w9 from hk.2).ev (v := .int .i64 o) rfl
      exact flow_on (wanted_at (j := 22) (b := false) (s := 95) rfl rfl hgd) (flow_run (v := .int .u8 o) (by go_simp) (Sp.Ok.refl _) (show GV (VE B1 o i k x y q d p v1 v2) 24 (.int .u8 o) w9 from GV.of rfl))
    -- 98
    refine ⟨fun a9 w9 hR hk hf => ?_, ?_⟩
    · simp only [KnowF, FreeF, and_true] at hk hf
      have hgd := (show GV (VE B1 o i k x y q d p v1 v2) 22 (a9.eval (.tmp 95)) w9 from hk).eval (v := .bool false) rfl
      have e1 : a9.tmps[1]?.getD undef = .slice (some ⟨B1, 0, none⟩) 25 25 := freeF_ev hf
      exact flow_on (wanted_at (j := 22) (b := false) (s := 95) rfl rfl hgd) (flow_run (v := .slice (some ⟨B1, 0, none⟩) 25 25) (by go_simp) (Sp.Ok.refl _) (show GV (VE B1 o i k x y q d p v1 v2) 25 (.slice (some ⟨B1, 0, none⟩) 25 25) w9 from GV.of rfl))
    -- 99
    refine ⟨fun a9 w9 hR hk hf => ?_, ?_⟩
    · simp only [KnowF, FreeF, and_true] at hk hf
      have hgd := (show GV (VE B1 o i k x y q d p v1 v2) 22 (a9.eval (.tmp 95)) w9 from hk).eval (v := .bool false) rfl
      have e4 : a9.tmps[4]?.getD undef = .int .i64 (i : Int) := freeF_ev hf
      exact flow_on (wanted_at (j := 22) (b := false) (s := 95) rfl rfl hgd) (flow_run (v := .int .i64 (i : Int)) (by go_simp) (Sp.Ok.refl _) (show GV (VE B1 o i k x y q d p v1 v2) 26 (.int .i64 (i : Int)) w9 from GV.of rfl))
    -- 100
    refine ⟨fun a9 w9 hR hk hf => ?_, ?_⟩
    · simp only [KnowF, FreeF, and_true] at hk hf
      have hgd := (show GV (VE B1 o i k x y q d p v1 v2) 22 (a9.eval (.tmp 95)) w9 from hk.1).eval (v := .bool false) rfl
      have e98 := (show GV (VE B1 o i k x y q d p v1 v2) 25 (a9.eval (.tmp 98)) w9 from hk.2.1).ev (v := .slice (some ⟨B1, 0, none⟩) 25 25) rfl
      have e99 := (show GV (VE B1 o i k x y q d p v1 v2) 26 (a9.eval (.tmp 99)) w9 from hk.2.2).ev (v := .int .i64 (i : Int)) rfl
      exact flow_on (wanted_at (j := 22) (b := false) (s := 95) rfl rfl hgd) (flow_run (v := .pointer (some ⟨B1, i, none⟩)) (by go_simp) (Sp.Ok.refl _) (show GV (VE B1 o i k x y q d p v1 v2) 27 (.pointer (some ⟨B1, i, none⟩)) w9 from GV.of rfl))
    -- 101
    refine ⟨fun a9 w9 hR hk hf => ?_, ?_⟩
    · simp only [KnowF, FreeF, and_true] at hk hf
      have hgd := (show GV (VE B1 o i k x y q d p v1 v2) 22 (a9.eval (.tmp 95)) w9 from hk.1).eval (v := .bool false) rfl
      have e100 := (show GV (VE B1 o i k x y q d p v1 v2) 27 (a9.eval (.tmp 100)) w9 from hk.2).ev (v := .pointer (some ⟨B1, i, none⟩)) rfl
      have hcl := (HRN.out.step hR).l HX.out
      exact flow_on (wanted_at (j := 22) (b := false) (s := 95) rfl rfl hgd) (flow_run (v := .int .u64 x) (by go_simp) (Sp.Ok.refl _) (show GV (VE B1 o i k x y q d p v1 v2) 28 (.int .u64 x) w9 from GV.of rfl))
    -- 102
    refine ⟨fun a9 w9 hR hk hf => ?_, ?_⟩
    · simp only [KnowF, FreeF, and_true] at hk hf
      have hgd := (show GV (VE B1 o i k x y q d p v1 v2) 22 (a9.eval (.tmp 95)) w9 from hk).eval (v := .bool false) rfl
      have e1 : a9.tmps[1]?.getD undef = .slice (some ⟨B1, 0, none⟩) 25 25 := freeF_ev hf
      exact flow_on (wanted_at (j := 22) (b := false) (s := 95) rfl rfl hgd) (flow_run (v := .slice (some ⟨B1, 0, none⟩) 25 25) (by go_simp) (Sp.Ok.refl _) (show GV (VE B1 o i k x y q d p v1 v2) 29 (.slice (some ⟨B1, 0, none⟩) 25 25) w9 from GV.of rfl))
    -- 103
    refine ⟨fun a9 w9 hR hk hf => ?_, ?_⟩
    · simp only [KnowF, FreeF, and_true] at hk hf
      have hgd := (show GV (VE B1 o i k x y q d p v1 v2) 22 (a9.eval (.tmp 95)) w9 from hk).eval (v := .bool false) rfl
      have e5 : a9.tmps[5]?.getD undef = .int .i64 (k : Int) := freeF_ev hf
      exact flow_on (wanted_at (j := 22) (b := false) (s := 95) rfl rfl hgd) (flow_run (v := .int .i64 (k : Int)) (by go_simp) (Sp.Ok.refl _) (show GV (VE B1 o i k x y q d p v1 v2) 30 (.int .i64 (k : Int)) w9 from GV.of rfl))
    -- 104
    refine ⟨fun a9 w9 hR hk hf => ?_, ?_⟩
    · simp only [KnowF, FreeF, and_true] at hk hf
      have hgd := (show GV (VE B1 o i k x y q d p v1 v2) 22 (a9.eval (.tmp 95)) w9 from hk.1).eval (v := .bool false) rfl
      have e102 := (show GV (VE B1 o i k x y q d p v1 v2) 29 (a9.eval (.tmp 102)) w9 from hk.2.1).ev (v := .slice (some ⟨B1, 0, none⟩) 25 25) rfl
      have e103 := (show GV (VE B1 o i k x y q d p v1 v2) 30 (a9.eval (.tmp 103)) w9 from hk.2.2).ev (v := .int .i64 (k : Int)) rfl
      exact flow_on (wanted_at (j := 22) (b := false) (s := 95) rfl rfl hgd) (flow_run (v := .pointer (some ⟨B1, k, none⟩)) (by go_simp) (Sp.Ok.refl _) (show GV (VE B1 o i k x y q d p v1 v2) 31 (.pointer (some ⟨B1, k, none⟩)) w9 from GV.of rfl))
    -- 105
    refine ⟨fun a9 w9 hR hk hf => ?_, ?_⟩
    · simp only [KnowF, FreeF, and_true] at hk hf
      have hgd := (show GV (VE B1 o i k x y q d p v1 v2) 22 (a9.eval (.tmp 95)) w9 from hk.1).eval (v := .bool false) rfl
      have e104 := (show GV (VE B1 o i k x y q d p v1 v2) 31 (a9.eval (.tmp 104)) w9 from hk.2).ev (v := .pointer (some ⟨B1, k, none⟩)) rfl
      have hcl := (HRN.out.step hR).l HY.out
      exact flow_on (wanted_at (j := 22) (b := false) (s := 95) rfl rfl hgd) (flow_run (v := .int .u64 y) (by go_simp) (Sp.Ok.refl _) (show GV (VE B1 o i k x y q d p v1 v2) 32 (.int .u64 y) w9 from GV.of rfl))
    -- 106
    refine ⟨fun a9 w9 hR hk hf => ?_, ?_⟩
    · simp only [KnowF, FreeF, and_true] at hk hf
      have hgd := (show GV (VE B1 o i k x y q d p v1 v2) 22 (a9.eval (.tmp 95)) w9 from hk).eval (v := .bool false) rfl
      have e4 : a9.tmps[4]?.getD undef = .int .i64 (i : Int) := freeF_ev hf
      exact flow_on (wanted_at (j := 22) (b := false) (s := 95) rfl rfl hgd) (flow_run (v := .int .i64 (i : Int)) (by go_simp) (Sp.Ok.refl _) (show GV (VE B1 o i k x y q d p v1 v2) 33 (.int .i64 (i : Int)) w9 from GV.of rfl))
    -- 107
    refine ⟨fun a9 w9 hR hk hf => ?_, ?_⟩
    · simp only [KnowF, FreeF, and_true] at hk hf
      have hgd := (show GV (VE B1 o i k x y q d p v1 v2) 22 (a9.eval (.tmp 95)) w9 from hk.1).eval (v := .bool false) rfl
      have e106 := (show GV (VE B1 o i k x y q d p v1 v2) 33 (a9.eval (.tmp 106)) w9 from hk.2).ev (v := .int .i64 (i : Int)) rfl
      exact flow_on (wanted_at (j := 22) (b := false) (s := 95) rfl rfl hgd) (flow_run (v := .int .i64 q) (by go_simp) (Sp.Ok.refl _) (show GV (VE B1 o i k x y q d p v1 v2) 34 (.int .i64 q) w9 from GV.of rfl))
    -- 108
    refine ⟨fun a9 w9 hR hk hf => ?_, ?_⟩
    · simp only [KnowF, FreeF, and_true] at hk hf
      have hgd := (show GV (VE B1 o i k x y q d p v1 v2) 22 (a9.eval (.tmp 95)) w9 from hk.1).eval (v := .bool false) rfl
      have e107 := (show GV (VE B1 o i k x y q d p v1 v2) 34 (a9.eval (.tmp 107)) w9 from hk.2).ev (v := .int .i64 q) rfl
      exact flow_on (wanted_at (j := 22) (b := false) (s := 95) rfl rfl hgd) (flow_run (v := .int .i64 d) (by go_simp) (Sp.Ok.refl _) (show GV (VE B1 o i k x y q d p v1 v2) 35 (.int .i64 d) w9 from GV.of rfl))
    -- 109
    refine ⟨fun a9 w9 hR hk hf => ?_, ?_⟩
    · simp only [KnowF, FreeF, and_true] at hk hf
      have hgd := (show GV (VE B1 o i k x y q d p v1 v2) 22 (a9.eval (.tmp 95)) w9 from hk).eval (v := .bool false) rfl
      exact flow_on (wanted_at (j := 22) (b := false) (s := 95) rfl rfl hgd) (flow_run (v := .slice (some ⟨w9.heap.size, 0, none⟩) 5 5) (w' := w9.alloc (.cells #[.int .i64 1, .int .i64 2, .int .i64 4, .int .i64 8, .int .i64 3] 3)) (by go_simp) (Below.alloc (Below.refl _ _) (Nat.le_refl _) _) (show SL p v2 _ _ from ⟨_, rfl, by rw [cl_of (al_at w9 _)]; exact HV2.out⟩))
    -- 110
    refine ⟨fun a9 w9 hR hk hf => ?_, ?_⟩
    · simp only [KnowF, FreeF, and_true] at hk hf
      have hgd := (show GV (VE B1 o i k x y q d p v1 v2) 22 (a9.eval (.tmp 95)) w9 from hk).eval (v := .bool false) rfl
      have e5 : a9.tmps[5]?.getD undef = .int .i64 (k : Int) := freeF_ev hf
      exact flow_on (wanted_at (j := 22) (b := false) (s := 95) rfl rfl hgd) (flow_run (v := .int .i64 (k : Int)) (by go_simp) (Sp.Ok.refl _) (show GV (VE B1 o i k x y q d p v1 v2) 37 (.int .i64 (k : Int)) w9 from GV.of rfl))
    -- 111
    refine ⟨fun a9 w9 hR hk hf => ?_, ?_⟩
    · simp only [KnowF, FreeF, and_true] at hk hf
      have hgd := (show GV (VE B1 o i k x y q d p v1 v2) 22 (a9.eval (.tmp 95)) w9 from hk.1).eval (v := .bool false) rfl
      have e110 := (show GV (VE B1 o i k x y q d p v1 v2) 37 (a9.eval (.tmp 110)) w9 from hk.2).ev (v := .int .i64 (k : Int)) rfl
      exact flow_on (wanted_at (j := 22) (b := false) (s := 95) rfl rfl hgd) (flow_run (v := .int .i64 (p : Int)) (by go_simp) (Sp.Ok.refl _) (show GV (VE B1 o i k x y q d p v1 v2) 38 (.int .i64 (p : Int)) w9 from GV.of rfl))
    -- 112
    refine ⟨fun a9 w9 hR hk hf => ?_, ?_⟩
    · simp only [KnowF, FreeF, and_true] at hk hf
      have hgd := (show GV (VE B1 o i k x y q d p v1 v2) 22 (a9.eval (.tmp 95)) w9 from hk.1).eval (v := .bool false) rfl
      obtain ⟨g, hg, hc⟩ := (show SL p v2 (a9.eval (.tmp 109)) w9 from hk.2.1)
      have e109 := freeF_ev hg
      have e111 := (show GV (VE B1 o i k x y q d p v1 v2) 38 (a9.eval (.tmp 111)) w9 from hk.2.2).ev (v := .int .i64 (p : Int)) rfl
      exact flow_on (wanted_at (j := 22) (b := false) (s := 95) rfl rfl hgd) (flow_run (v := .pointer (some ⟨g, p, none⟩)) (by go_simp) (Sp.Ok.refl _) (show SP p v2 _ _ from ⟨g, rfl, hc⟩))
    -- 113
    refine ⟨fun a9 w9 hR hk hf => ?_, ?_⟩
    · simp only [KnowF, FreeF, and_true] at hk hf
      have hgd := (show GV (VE B1 o i k x y q d p v1 v2) 22 (a9.eval (.tmp 95)) w9 from hk.1).eval (v := .bool false) rfl
      obtain ⟨g, hg, hc⟩ := (show SP p v2 (a9.eval (.tmp 112)) w9 from hk.2)
      have e112 := freeF_ev hg
      exact flow_on (wanted_at (j := 22) (b := false) (s := 95) rfl rfl hgd) (flow_run (v := .int .i64 v2) (by go_simp) (Sp.Ok.refl _) (show GV (VE B1 o i k x y q d p v1 v2) 40 (.int .i64 v2) w9 from GV.of rfl))
    -- 114
    refine ⟨fun a9 w9 hR hk hf => ?_, ?_⟩
    · simp only [KnowF, FreeF, and_true] at hk hf
      have hgd := (show GV (VE B1 o i k x y q d p v1 v2) 22 (a9.eval (.tmp 95)) w9 from hk).eval (v := .bool false) rfl
      have e4 : a9.tmps[4]?.getD undef = .int .i64 (i : Int) := freeF_ev hf
      exact flow_on (wanted_at (j := 22) (b := false) (s := 95) rfl rfl hgd) (flow_run (v := .int .i64 (i : Int)) (by go_simp) (Sp.Ok.refl _) (show GV (VE B1 o i k x y q d p v1 v2) 41 (.int .i64 (i : Int)) w9 from GV.of rfl))
    -- 115
    refine ⟨fun a9 w9 hR hk hf => ?_, ?_⟩
    · simp only [KnowF, FreeF, and_true] at hk hf
      have hgd := (show GV (VE B1 o i k x y q d p v1 v2) 22 (a9.eval (.tmp 95)) w9 from hk.1).eval (v := .bool false) rfl
      have e114 := (show GV (VE B1 o i k x y q d p v1 v2) 41 (a9.eval (.tmp 114)) w9 from hk.2).ev (v := .int .i64 (i : Int)) rfl
      exact flow_on (wanted_at (j := 22) (b := false) (s := 95) rfl rfl hgd) (flow_run (v := .int .i64 (Int.tmod (i : Int) 2)) (by go_simp) (Sp.Ok.refl _) (show GV (VE B1 o i k x y q d p v1 v2) 42 (.int .i64 (Int.tmod (i : Int) 2)) w9 from GV.of rfl))
    -- 116
    refine ⟨fun a9 w9 hR hk hf => ?_, ?_⟩
    · simp only [KnowF, FreeF, and_true] at hk hf
      have hgd := (show GV (VE B1 o i k x y q d p v1 v2) 22 (a9.eval (.tmp 95)) w9 from hk.1).eval (v := .bool false) rfl
      have e115 := (show GV (VE B1 o i k x y q d p v1 v2) 42 (a9.eval (.tmp 115)) w9 from hk.2).ev (v := .int .i64 (Int.tmod (i : Int) 2)) rfl
      exact flow_on (wanted_at (j := 22) (b := false) (s := 95) rfl rfl hgd) (flow_run (v := .bool (Int.tmod (i : Int) 2 == 0)) (by go_simp) (Sp.Ok.refl _) (show GV (VE B1 o i k x y q d p v1 v2) 43 (.bool (Int.tmod (i : Int) 2 == 0)) w9 from GV.of rfl))
    -- 117
    refine ⟨fun a9 w9 hR hk hf => ?_, ?_⟩
    · simp only [KnowF, FreeF, and_true] at hk hf
      have hgd := (show GV (VE B1 o i k x y q d p v1 v2) 22 (a9.eval (.tmp 95)) w9 from hk.1).eval (v := .bool false) rfl
      have e97 := (show GV (VE B1 o i k x y q d p v1 v2) 24 (a9.eval (.tmp 97)) w9 from hk.2.1).ev (v := .int .u8 o) rfl
      have e101 := (show GV (VE B1 o i k x y q d p v1 v2) 28 (a9.eval (.tmp 101)) w9 from hk.2.2.1).ev (v := .int .u64 x) rfl
      have e105 := (show GV (VE B1 o i k x y q d p v1 v2) 32 (a9.eval (.tmp 105)) w9 from hk.2.2.2.1).ev (v := .int .u64 y) rfl
      have e108 := (show GV (VE B1 o i k x y q d p v1 v2) 35 (a9.eval (.tmp 108)) w9 from hk.2.2.2.2.1).ev (v := .int .i64 d) rfl
      have e113 := (show GV (VE B1 o i k x y q d p v1 v2) 40 (a9.eval (.tmp 113)) w9 from hk.2.2.2.2.2.1).ev (v := .int .i64 v2) rfl
      have e116 := (show GV (VE B1 o i k x y q d p v1 v2) 43 (a9.eval (.tmp 116)) w9 from hk.2.2.2.2.2.2).ev (v := .bool (Int.tmod (i : Int) 2 == 0)) rfl
      exact flow_on (wanted_at (j := 22) (b := false) (s := 95) rfl rfl hgd) (flow_call (f := 6) (args := #[.int .u8 o, .bool false, .int .u64 x, .int .u64 y, .int .i64 d, .int .i64 v2, .bool (Int.tmod (i : Int) 2 == 0)]) (by go_simp) ((callW w9 _ _ HWO.out HXW.out HYW.out HDW.out HW2.out).mono (by rintro e w' ⟨rfl, hb⟩; exact ⟨_, rfl, hb, (show GV (VE B1 o i k x y q d p v1 v2) 44 (.bool true) w' from GV.of rfl)⟩)))
    -- 118
    refine ⟨fun a9 w9 hR hk hf => ?_, ?_⟩
    · simp only [KnowF, FreeF, and_true] at hk hf
      have hgd := (show GV (VE B1 o i k x y q d p v1 v2) 22 (a9.eval (.tmp 95)) w9 from hk.1).eval (v := .bool false) rfl
      have e117 := (show GV (VE B1 o i k x y q d p v1 v2) 44 (a9.eval (.tmp 117)) w9 from hk.2).ev (v := .bool true) rfl
      exact flow_on (wanted_at (j := 22) (b := false) (s := 95) rfl rfl hgd) (flow_run (v := .bool false) (by go_simp) (Sp.Ok.refl _) (show GV (VE B1 o i k x y q d p v1 v2) 45 (.bool false) w9 from GV.of rfl))
    exact trivial
  · intro f w5 hb5 hG
    have e95 : f 95 = .bool false := (show GV (VE B1 o i k x y q d p v1 v2) 22 (f 95) w5 from hG 22 _ 95 (by decide) rfl rfl) _ rfl
    have e118 : f 118 = .bool false := (show GV (VE B1 o i k x y q d p v1 v2) 45 (f 118) w5 from hG 45 _ 118 (by decide) rfl rfl) _ rfl
    have HR5 := Lib.hid (HRN.out.step hb5)
    clear hG hb5
    simp only [List.drop_succ_cons, List.drop_zero]
    show wpList _ _ _ _ { tmps := List.toArray (u0 :: .slice (some ⟨B1, 0, none⟩) 25 25 :: u2 :: .int .i64 o :: .int .i64 (i : Int) :: .int .i64 (k : Int) :: u6 :: u7 :: u8 :: u9 :: u10 :: u11 :: u12 :: u13 :: u14 :: u15 :: u16 :: u17 :: u18 :: u19 :: u20 :: u21 :: u22 :: u23 :: u24 :: u25 :: u26 :: u27 :: u28 :: u29 :: u30 :: u31 :: u32 :: u33 :: u34 :: u35 :: u36 :: u37 :: u38 :: u39 :: u40 :: u41 :: u42 :: u43 :: u44 :: u45 :: u46 :: u47 :: u48 :: u49 :: u50 :: u51 :: u52 :: u53 :: u54 :: u55 :: u56 :: u57 :: u58 :: u59 :: u60 :: u61 :: u62 :: u63 :: u64 :: u65 :: u66 :: u67 :: u68 :: u69 :: u70 :: u71 :: u72 :: f 73 :: f 74 :: f 75 :: f 76 :: f 77 :: f 78 :: f 79 :: f 80 :: f 81 :: f 82 :: f 83 :: f 84 :: f 85 :: f 86 :: f 87 :: f 88 :: f 89 :: f 90 :: f 91 :: f 92 :: f 93 :: f 94 :: f 95 :: f 96 :: f 97 :: f 98 :: f 99 :: f 100 :: f 101 :: f 102 :: f 103 :: f 104 :: f 105 :: f 106 :: f 107 :: f 108 :: f 109 :: f 110 :: f 111 :: f 112 :: f 113 :: f 114 :: f 115 :: f 116 :: f 117 :: f 118 :: u119 :: []), defers := [] } w5
    go_wp2_with fail
    exact HQ.out _ _ _ _ _ _ _ _ _ _ _ _ _ _ _ _ _ _ _ _ _ _ _ _ _ _ _ _ _ _ _ _ _ _ _ _ _ _ _ _ _ _ _ _ _ _ _ HR5.out
end Go.Proofs.Ytlhegejfaihgmaa.M
