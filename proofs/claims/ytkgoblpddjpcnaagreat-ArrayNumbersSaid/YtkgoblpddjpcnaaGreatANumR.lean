/-
  'ArrayNumbers': its region of 49 operations, in whatever order (printed by mkanum.py).
-/
import Derived.Test.YtkgoblpddjpcnaaGreatANumA
import Derived.Deep.DrawnRows
namespace Go.Proofs.YtkgoblpddjpcnaaGreat.M
open Go.RowKit Go.Shelf
set_option linter.unusedVariables false
set_option linter.unusedSectionVars false
set_option linter.unusedSimpArgs false
/-- The block of a code that bears a number. -/
def regionOf (n : Nat) : Code → Option Code
  | .region k ops b => if k = n then some (.region k ops b) else none
  | .seq a b => match regionOf n a with
    | some c => some c
    | none => regionOf n b
  | .block _ c => regionOf n c
  | .loop c => regionOf n c
  | .scope c => regionOf n c
  | .cond _ a b => match regionOf n a with
    | some c => some c
    | none => regionOf n b
  | _ => none
noncomputable def code_n31 : Code := ((Tryz.f4.body.getD .skip |> regionOf 31).getD .skip)
def NUMS (NB : Nat) : Value := .slice (some ⟨NB, 0, none⟩) 11 11
def PosG (v : Value) : Prop := ∃ n : Int, v = .int .i64 n ∧ 0 ≤ n
/-- Seven deeds in a row that was just laid. -/
def SevG (v : Value) (w : World) : Prop := ∃ (g : Nat) (ds : List DeedA), v = .slice (some ⟨g, 0, none⟩) 7 7 ∧ ds.length = 7 ∧ (∃ f, w.heap[g]? = some (.cells (ds.flatMap DeedA.cells).toArray 39 f)) ∧ ∀ d ∈ ds, DeedT w d
theorem SevG.rk {n0 : Nat} {w w' : World} {v : Value} (h : SevG v w) (hb : RK n0 w w') : SevG v w' := by
  obtain ⟨g, ds, h1, h2, ⟨f, h3⟩, h4⟩ := h
  exact ⟨g, ds, h1, h2, hb.cells _ _ _ _ h3, fun d hd => (h4 d hd).rk hb⟩
/-- What each operation comes to. -/
def GN (n0 NB i k : Nat) (L B14 : Value) : Nat → Value → World → Prop
  | 0, v, w => v = L
  | 1, v, w => v = B14
  | 2, v, w => v = NUMS NB
  | 3, v, w => v = .int .i64 (i : Int)
  | 4, v, w => v = .pointer (some ⟨NB, i, none⟩)
  | 5, v, w => NumG .i64 v
  | 6, v, w => DG v w
  | 7, v, w => v = B14
  | 8, v, w => v = NUMS NB
  | 9, v, w => v = .int .i64 (i : Int)
  | 10, v, w => v = .pointer (some ⟨NB, i, none⟩)
  | 11, v, w => NumG .i64 v
  | 12, v, w => DG v w
  | 13, v, w => KeyG v w
  | 14, v, w => v = B14
  | 15, v, w => v = NUMS NB
  | 16, v, w => v = .int .i64 (i : Int)
  | 17, v, w => v = .pointer (some ⟨NB, i, none⟩)
  | 18, v, w => NumG .i64 v
  | 19, v, w => NumG .u64 v
  | 20, v, w => DG v w
  | 21, v, w => v = NUMS NB
  | 22, v, w => v = .int .i64 (k : Int)
  | 23, v, w => v = .pointer (some ⟨NB, k, none⟩)
  | 24, v, w => NumG .i64 v
  | 25, v, w => KeyG v w
  | 26, v, w => RawG v w n0 [120, 121, 122]
  | 27, v, w => ByG v w
  | 28, v, w => DG v w
  | 29, v, w => v = NUMS NB
  | 30, v, w => v = .int .i64 (k : Int)
  | 31, v, w => v = .pointer (some ⟨NB, k, none⟩)
  | 32, v, w => NumG .i64 v
  | 33, v, w => PosG v
  | 34, v, w => NatG 6 v
  | 35, v, w => ByG v w
  | 36, v, w => DG v w
  | 37, v, w => KeyG v w
  | 38, v, w => v = .int .i64 (i : Int)
  | 39, v, w => NatG 4 v
  | 40, v, w => ByG v w
  | 41, v, w => RawG v w n0 [117, 118, 119]
  | 42, v, w => ByG v w
  | 43, v, w => DG v w
  | 44, v, w => KeyG v w
  | 45, v, w => DG v w
  | 46, v, w => SevG v w
  | _, _, _ => True
theorem GN_keep {n0 NB i k : Nat} {L B14 : Value} (j : Nat) (v : Value) (w w' : World) (h : GN n0 NB i k L B14 j v w) (hb : RK n0 w w') : GN n0 NB i k L B14 j v w' := by
  match j, h with
  | 0, h => exact h
  | 1, h => exact h
  | 2, h => exact h
  | 3, h => exact h
  | 4, h => exact h
  | 5, h => exact h
  | 6, h => exact (show DG v w from h).rk hb
  | 7, h => exact h
  | 8, h => exact h
  | 9, h => exact h
  | 10, h => exact h
  | 11, h => exact h
  | 12, h => exact (show DG v w from h).rk hb
  | 13, h => exact (show KeyG v w from h).rk hb
  | 14, h => exact h
  | 15, h => exact h
  | 16, h => exact h
  | 17, h => exact h
  | 18, h => exact h
  | 19, h => exact h
  | 20, h => exact (show DG v w from h).rk hb
  | 21, h => exact h
  | 22, h => exact h
  | 23, h => exact h
  | 24, h => exact h
  | 25, h => exact (show KeyG v w from h).rk hb
  | 26, h => exact (show RawG v w n0 [120, 121, 122] from h).rk hb
  | 27, h => exact (show ByG v w from h).rk hb
  | 28, h => exact (show DG v w from h).rk hb
  | 29, h => exact h
  | 30, h => exact h
  | 31, h => exact h
  | 32, h => exact h
  | 33, h => exact h
  | 34, h => exact h
  | 35, h => exact (show ByG v w from h).rk hb
  | 36, h => exact (show DG v w from h).rk hb
  | 37, h => exact (show KeyG v w from h).rk hb
  | 38, h => exact h
  | 39, h => exact h
  | 40, h => exact (show ByG v w from h).rk hb
  | 41, h => exact (show RawG v w n0 [117, 118, 119] from h).rk hb
  | 42, h => exact (show ByG v w from h).rk hb
  | 43, h => exact (show DG v w from h).rk hb
  | 44, h => exact (show KeyG v w from h).rk hb
  | 45, h => exact (show DG v w from h).rk hb
  | 46, h => exact (show SevG v w from h).rk hb
  | j + 47, h => exact trivial
theorem wf_wrapU (n : Int) : (Lit.int .u64 (IntKind.u64.wrap n)).wf = true := by
  rw [IntKind.wrap_u64]
  simp only [Lit.wf, Bool.and_eq_true, decide_eq_true_eq]
  have h1 := Int.emod_nonneg n (show (18446744073709551616 : Int) ≠ 0 by decide)
  have h2 := Int.emod_lt_of_pos n (show (0 : Int) < 18446744073709551616 by decide)
  exact ⟨Int.le_trans (by decide) h1, Int.le_trans (Int.le_sub_one_of_lt h2) (by decide)⟩
theorem evF {a : Act} {s : Nat} {v : Value} (h : a.eval (.tmp s) = v) : a.tmps[s]?.getD undef = v := by rw [← h]; simp [Act.eval]
def frN (NB i k : Nat) (L B14 : Value) : List (List (Tmp × Value)) := [[(12, L)], [(14, B14)], [(1, NUMS NB)], [(11, .int .i64 (i : Int))], [], [], [], [(14, B14)], [(1, NUMS NB)], [(11, .int .i64 (i : Int))], [], [], [], [], [(14, B14)], [(1, NUMS NB)], [(11, .int .i64 (i : Int))], [], [], [], [], [(1, NUMS NB)], [(13, .int .i64 (k : Int))], [], [], [], [], [], [], [(1, NUMS NB)], [(13, .int .i64 (k : Int))], [], [], [], [], [], [], [], [(11, .int .i64 (i : Int))], [], [], [], [], [], [], [], []]
theorem num_at {w0 w : World} {NB i : Nat} (hi : i < 11) (hN : w0.heap[NB]? = some (.cells nums11 3)) (hR : RK w0.heap.size w0 w) : ∃ x : Int, w.cell? ⟨NB, i, none⟩ = some (.int .i64 x) ∧ (Lit.int .i64 x).wf = true := by
  obtain ⟨x, h1, h2⟩ := nums_int i hi
  exact ⟨x, hR.reads _ _ (by rw [at_cells hN]; exact h1), h2⟩
theorem small_wf (n : Nat) (h : n < 256) : (Lit.int .i64 (n : Int)).wf = true := by
  simp only [Lit.wf, Bool.and_eq_true, decide_eq_true_eq]
  exact ⟨Int.le_trans (by decide) (Int.natCast_nonneg n), Int.le_trans (show (n : Int) ≤ 256 by omega) (by decide)⟩
theorem zero_row (m : Nat) : madeCells #[Value.int .u8 0] m = (u8s (List.replicate m 0)).toArray := by
  apply Array.ext_getElem?
  intro i
  simp only [madeCells, Array.getElem?_map, u8s, List.getElem?_toArray, List.map_replicate, List.getElem?_replicate]
  by_cases h : i < m
  · simp [h, Nat.mod_one]
  · simp [h]
/-- Behind the region: seven deeds more. -/
def RelN (base : Nat) (w0 : World) (m : Nat) (v : Value) (w' : World) : Prop := ∃ ds L, ds.length = m + 7 ∧ RowD base v w' ds ∧ But L w0 w' ∧ ∀ b ∈ L, base ≤ b

set_option maxRecDepth 100000 in
set_option maxHeartbeats 8000000 in
theorem n31 (Q : Exit → Act → World → Prop) {w0 : World} {base NB BB i k bl bc : Nat} {la : Option Addr} {lc : Nat} {ds : List DeedA} (hi : i < 11) (hk : k < 11) (hN : w0.heap[NB]? = some (.cells nums11 3)) (hB : ByG (.slice (some ⟨BB, 0, none⟩) bl bc) w0) (hL : RowD base (.slice la ds.length lc) w0 ds) (hbase : base ≤ w0.heap.size) (hds : ds.length ≤ 1000) {u0 u2 u3 u4 u5 u6 u7 u8 u9 u10 u15 u16 u17 u18 u19 u20 u21 u22 u23 u24 u25 u26 u27 u28 u29 u30 u31 u32 u33 u34 u35 u36 u37 u38 u39 u40 u41 u42 u43 u44 u45 u46 u47 u48 u49 u50 u51 u52 u53 u54 u55 u56 u57 u58 u59 u60 u61 u62 u63 u64 u65 u66 u67 u68 u69 u70 u71 u72 u73 u74 u75 u76 u77 u78 u79 u80 u81 u82 u83 u84 u85 u86 u87 u88 u89 u90 u91 u92 u93 u94 u95 u96 u97 u98 u99 u100 u101 u102 u103 u104 u105 u106 u107 u108 u109 u110 u111 u112 u113 u114 u115 u116 u117 u118 u119 u120 u121 u122 u123 u124 u125 u126 u127 u128 u129 u130 u131 u132 u133 u134 u135 u136 u137 u138 u139 u140 u141 u142 u143 u144 u145 u146 u147 u148 u149 u150 u151 u152 u153 u154 u155 u156 : Value} (hQ : ∀ (z12 z96 z97 z98 z99 z100 z101 z102 z103 z104 z105 z106 z107 z108 z109 z110 z111 z112 z113 z114 z115 z116 z117 z118 z119 z120 z121 z122 z123 z124 z125 z126 z127 z128 z129 z130 z131 z132 z133 z134 z135 z136 z137 z138 z139 z140 z141 z142 z143 : Value) (w' : World), RelN base w0 ds.length z12 w' → Q .normal { tmps := List.toArray (u0 :: NUMS NB :: u2 :: u3 :: u4 :: u5 :: u6 :: u7 :: u8 :: u9 :: u10 :: .int .i64 (i : Int) :: z12 :: .int .i64 (k : Int) :: .slice (some ⟨BB, 0, none⟩) bl bc :: u15 :: u16 :: u17 :: u18 :: u19 :: u20 :: u21 :: u22 :: u23 :: u24 :: u25 :: u26 :: u27 :: u28 :: u29 :: u30 :: u31 :: u32 :: u33 :: u34 :: u35 :: u36 :: u37 :: u38 :: u39 :: u40 :: u41 :: u42 :: u43 :: u44 :: u45 :: u46 :: u47 :: u48 :: u49 :: u50 :: u51 :: u52 :: u53 :: u54 :: u55 :: u56 :: u57 :: u58 :: u59 :: u60 :: u61 :: u62 :: u63 :: u64 :: u65 :: u66 :: u67 :: u68 :: u69 :: u70 :: u71 :: u72 :: u73 :: u74 :: u75 :: u76 :: u77 :: u78 :: u79 :: u80 :: u81 :: u82 :: u83 :: u84 :: u85 :: u86 :: u87 :: u88 :: u89 :: u90 :: u91 :: u92 :: u93 :: u94 :: u95 :: z96 :: z97 :: z98 :: z99 :: z100 :: z101 :: z102 :: z103 :: z104 :: z105 :: z106 :: z107 :: z108 :: z109 :: z110 :: z111 :: z112 :: z113 :: z114 :: z115 :: z116 :: z117 :: z118 :: z119 :: z120 :: z121 :: z122 :: z123 :: z124 :: z125 :: z126 :: z127 :: z128 :: z129 :: z130 :: z131 :: z132 :: z133 :: z134 :: z135 :: z136 :: z137 :: z138 :: z139 :: z140 :: z141 :: z142 :: z143 :: u144 :: u145 :: u146 :: u147 :: u148 :: u149 :: u150 :: u151 :: u152 :: u153 :: u154 :: u155 :: u156 :: []), defers := [] } w') :
    Code.wp Tryz.prog code_n31 Q { tmps := List.toArray (u0 :: NUMS NB :: u2 :: u3 :: u4 :: u5 :: u6 :: u7 :: u8 :: u9 :: u10 :: .int .i64 (i : Int) :: .slice la ds.length lc :: .int .i64 (k : Int) :: .slice (some ⟨BB, 0, none⟩) bl bc :: u15 :: u16 :: u17 :: u18 :: u19 :: u20 :: u21 :: u22 :: u23 :: u24 :: u25 :: u26 :: u27 :: u28 :: u29 :: u30 :: u31 :: u32 :: u33 :: u34 :: u35 :: u36 :: u37 :: u38 :: u39 :: u40 :: u41 :: u42 :: u43 :: u44 :: u45 :: u46 :: u47 :: u48 :: u49 :: u50 :: u51 :: u52 :: u53 :: u54 :: u55 :: u56 :: u57 :: u58 :: u59 :: u60 :: u61 :: u62 :: u63 :: u64 :: u65 :: u66 :: u67 :: u68 :: u69 :: u70 :: u71 :: u72 :: u73 :: u74 :: u75 :: u76 :: u77 :: u78 :: u79 :: u80 :: u81 :: u82 :: u83 :: u84 :: u85 :: u86 :: u87 :: u88 :: u89 :: u90 :: u91 :: u92 :: u93 :: u94 :: u95 :: u96 :: u97 :: u98 :: u99 :: u100 :: u101 :: u102 :: u103 :: u104 :: u105 :: u106 :: u107 :: u108 :: u109 :: u110 :: u111 :: u112 :: u113 :: u114 :: u115 :: u116 :: u117 :: u118 :: u119 :: u120 :: u121 :: u122 :: u123 :: u124 :: u125 :: u126 :: u127 :: u128 :: u129 :: u130 :: u131 :: u132 :: u133 :: u134 :: u135 :: u136 :: u137 :: u138 :: u139 :: u140 :: u141 :: u142 :: u143 :: u144 :: u145 :: u146 :: u147 :: u148 :: u149 :: u150 :: u151 :: u152 :: u153 :: u154 :: u155 :: u156 :: []), defers := [] } w0 := by
  obtain ⟨j0, ki, kz0, kz1, kz2⟩ := info_parts (show (Tryz.prog.info? 39).map (fun i => (i.zero, i.size, i.bytes)) = some (some (.agg #[.int .i64 0, .slice none 0 0, .slice none 0 0, .int .u64 0, .int .i64 0, .int .i64 0]), 6, 80) by kernel_rfl)
  obtain ⟨m0, mi, mz0, mz1, mz2⟩ := info_parts (show (Tryz.prog.info? 5).map (fun i => (i.zero, i.size, i.bytes)) = some (some (.int .u8 0), 1, 1) by kernel_rfl)
  have HMK : Hid (∀ (w : World) (m : Nat), m ≤ 6 → (Instr.makeSlice 36 (.int .i64 (m : Int)) (.int .i64 (m : Int))).run Tryz.prog w = .ok (.slice (some ⟨w.heap.size, 0, none⟩) m m) (w.alloc (.cells (madeCells #[.int .u8 0] m) 5))) := Lib.hid fun w m hm => by
    have h := run_make (P := Tryz.prog) w 36 5 m0 (.int .u8 0) Tryz.underlying36 mi mz0 .i64 .i64 (m : Int) (m : Int) (by omega) (by omega) (by rw [mz2]; omega) (by omega)
    rw [h, mz1]
    simp only [Int.toNat_natCast, Nat.mul_one]
    rfl
  have HQ := Lib.hid hQ
  have HN := Lib.hid hN
  have HB := Lib.hid hB
  have HL := Lib.hid hL
  obtain ⟨n0, hn0⟩ : ∃ n0, n0 = w0.heap.size := ⟨_, rfl⟩
  have HN0 := Lib.hid hn0
  have q1 : (0 : Int) ≤ i := by omega
  have q2 : (i : Int) < 11 := by omega
  have q3 : (0 : Int) ≤ k := by omega
  have q4 : (k : Int) < 11 := by omega
  clear hQ hN hB hL mi mz0 mz1 mz2 hn0
  conv => arg 2; whnf
  refine wp_region_flow 47 (by decide) (by kernel_rfl) (RK n0) (fun _ _ _ h1 h2 => h1.trans h2) (RK.draw _ _) (GN n0 NB i k (.slice la ds.length lc) (.slice (some ⟨BB, 0, none⟩) bl bc)) [[], [], [], [], [(2, 98), (3, 99)], [(4, 100)], [(1, 97), (5, 101)], [], [], [], [(8, 104), (9, 105)], [(10, 106)], [(7, 103), (11, 107)], [], [], [], [], [(15, 111), (16, 112)], [(17, 113)], [(18, 114)], [(13, 109), (14, 110), (19, 115)], [], [], [(21, 117), (22, 118)], [(23, 119)], [(24, 120)], [], [(26, 122)], [(25, 121), (27, 123)], [], [], [(29, 125), (30, 126)], [(31, 127)], [(32, 128)], [(33, 129)], [(34, 130)], [(35, 131)], [], [], [(38, 134)], [(37, 133), (39, 135)], [], [(41, 137)], [(40, 136), (42, 138)], [], [(44, 140)], [(6, 102), (12, 108), (20, 116), (28, 124), (36, 132), (43, 139), (45, 141)]] (frN NB i k (.slice la ds.length lc) (.slice (some ⟨BB, 0, none⟩) bl bc)) (by kernel_rfl) (by kernel_rfl) (by kernel_rfl) (by kernel_rfl) ?_ (fun j v w w' _ h hb => GN_keep j v w w' h hb) ?_ ?_
  · exact ⟨⟨rfl, trivial⟩, ⟨rfl, trivial⟩, ⟨rfl, trivial⟩, ⟨rfl, trivial⟩, trivial, trivial, trivial, ⟨rfl, trivial⟩, ⟨rfl, trivial⟩, ⟨rfl, trivial⟩, trivial, trivial, trivial, trivial, ⟨rfl, trivial⟩, ⟨rfl, trivial⟩, ⟨rfl, trivial⟩, trivial, trivial, trivial, trivial, ⟨rfl, trivial⟩, ⟨rfl, trivial⟩, trivial, trivial, trivial, trivial, trivial, trivial, ⟨rfl, trivial⟩, ⟨rfl, trivial⟩, trivial, trivial, trivial, trivial, trivial, trivial, trivial, ⟨rfl, trivial⟩, trivial, trivial, trivial, trivial, trivial, trivial, trivial, trivial, trivial⟩
  · simp only [List.take_succ_cons, List.take_zero]
    have hi11 : i < 11 := hi
    have hk11 : k < 11 := hk
    -- 96
    refine ⟨fun a w hR hk hf => ?_, ?_⟩
    · simp only [KnowF, FreeF, frN, and_true] at hk hf
      have e12 : a.tmps[12]?.getD undef = .slice la ds.length lc := evF hf
      exact flow_run (v := .slice la ds.length lc) (by go_simp) (RK.refl _ _) rfl
    -- 97
    refine ⟨fun a w hR hk hf => ?_, ?_⟩
    · simp only [KnowF, FreeF, frN, and_true] at hk hf
      have e14 : a.tmps[14]?.getD undef = .slice (some ⟨BB, 0, none⟩) bl bc := evF hf
      exact flow_run (v := .slice (some ⟨BB, 0, none⟩) bl bc) (by go_simp) (RK.refl _ _) rfl
    -- 98
    refine ⟨fun a w hR hk hf => ?_, ?_⟩
    · simp only [KnowF, FreeF, frN, and_true] at hk hf
      have e1 : a.tmps[1]?.getD undef = .slice (some ⟨NB, 0, none⟩) 11 11 := evF hf
      exact flow_run (v := .slice (some ⟨NB, 0, none⟩) 11 11) (by go_simp) (RK.refl _ _) rfl
    -- 99
    refine ⟨fun a w hR hk hf => ?_, ?_⟩
    · simp only [KnowF, FreeF, frN, and_true] at hk hf
      have e11 : a.tmps[11]?.getD undef = .int .i64 (i : Int) := evF hf
      exact flow_run (v := .int .i64 (i : Int)) (by go_simp) (RK.refl _ _) rfl
    -- 100
    refine ⟨fun a w hR hk hf => ?_, ?_⟩
    · simp only [KnowF, FreeF, frN, and_true] at hk hf
      have e98 : a.tmps[98]?.getD undef = .slice (some ⟨NB, 0, none⟩) 11 11 := evF (show a.eval (.tmp 98) = .slice (some ⟨NB, 0, none⟩) 11 11 from hk.1)
      have e99 : a.tmps[99]?.getD undef = .int .i64 (i : Int) := evF (show a.eval (.tmp 99) = .int .i64 (i : Int) from hk.2)
      exact flow_run (v := .pointer (some ⟨NB, i, none⟩)) (by go_simp) (RK.refl _ _) rfl
    -- 101
    refine ⟨fun a w hR hk hf => ?_, ?_⟩
    · simp only [KnowF, FreeF, frN, and_true] at hk hf
      have e100 : a.tmps[100]?.getD undef = .pointer (some ⟨NB, i, none⟩) := evF (show a.eval (.tmp 100) = .pointer (some ⟨NB, i, none⟩) from hk)
      obtain ⟨x, hx, hxw⟩ := num_at hi11 HN.out (by rw [← HN0.out]; exact hR)
      exact flow_run (v := .int .i64 x) (by go_simp) (RK.refl _ _) (show NumG .i64 _ from ⟨x, rfl, hxw⟩)
    -- 102
    refine ⟨fun a w hR hk hf => ?_, ?_⟩
    · simp only [KnowF, FreeF, frN, and_true] at hk hf
      have hBw : ByG (.slice (some ⟨BB, 0, none⟩) bl bc) w := HB.out.rk hR
      have e97 : a.tmps[97]?.getD undef = .slice (some ⟨BB, 0, none⟩) bl bc := evF (show a.eval (.tmp 97) = .slice (some ⟨BB, 0, none⟩) bl bc from hk.1)
      obtain ⟨x101, ex101, hw101⟩ := (show NumG .i64 (a.eval (.tmp 101)) from hk.2)
      have e101 := evF ex101
      have HW101 := Lib.hid hw101
      clear ex101 hw101
      clear hk
      exact flow_run (v := .agg #[.int .i64 2, .slice none 0 0, .slice (some ⟨BB, 0, none⟩) bl bc, .int .u64 0, .int .i64 1, .int .i64 x101]) (by go_simp) (RK.refl _ _) (show DG _ _ from deedG ByG.nil hBw rfl rfl rfl HW101.out)
    -- 103
    refine ⟨fun a w hR hk hf => ?_, ?_⟩
    · simp only [KnowF, FreeF, frN, and_true] at hk hf
      have e14 : a.tmps[14]?.getD undef = .slice (some ⟨BB, 0, none⟩) bl bc := evF hf
      exact flow_run (v := .slice (some ⟨BB, 0, none⟩) bl bc) (by go_simp) (RK.refl _ _) rfl
    -- 104
    refine ⟨fun a w hR hk hf => ?_, ?_⟩
    · simp only [KnowF, FreeF, frN, and_true] at hk hf
      have e1 : a.tmps[1]?.getD undef = .slice (some ⟨NB, 0, none⟩) 11 11 := evF hf
      exact flow_run (v := .slice (some ⟨NB, 0, none⟩) 11 11) (by go_simp) (RK.refl _ _) rfl
    -- 105
    refine ⟨fun a w hR hk hf => ?_, ?_⟩
    · simp only [KnowF, FreeF, frN, and_true] at hk hf
      have e11 : a.tmps[11]?.getD undef = .int .i64 (i : Int) := evF hf
      exact flow_run (v := .int .i64 (i : Int)) (by go_simp) (RK.refl _ _) rfl
    -- 106
    refine ⟨fun a w hR hk hf => ?_, ?_⟩
    · simp only [KnowF, FreeF, frN, and_true] at hk hf
      have e104 : a.tmps[104]?.getD undef = .slice (some ⟨NB, 0, none⟩) 11 11 := evF (show a.eval (.tmp 104) = .slice (some ⟨NB, 0, none⟩) 11 11 from hk.1)
      have e105 : a.tmps[105]?.getD undef = .int .i64 (i : Int) := evF (show a.eval (.tmp 105) = .int .i64 (i : Int) from hk.2)
      exact flow_run (v := .pointer (some ⟨NB, i, none⟩)) (by go_simp) (RK.refl _ _) rfl
    -- 107
    refine ⟨fun a w hR hk hf => ?_, ?_⟩
    · simp only [KnowF, FreeF, frN, and_true] at hk hf
      have e106 : a.tmps[106]?.getD undef = .pointer (some ⟨NB, i, none⟩) := evF (show a.eval (.tmp 106) = .pointer (some ⟨NB, i, none⟩) from hk)
      obtain ⟨x, hx, hxw⟩ := num_at hi11 HN.out (by rw [← HN0.out]; exact hR)
      exact flow_run (v := .int .i64 x) (by go_simp) (RK.refl _ _) (show NumG .i64 _ from ⟨x, rfl, hxw⟩)
    -- 108
    refine ⟨fun a w hR hk hf => ?_, ?_⟩
    · simp only [KnowF, FreeF, frN, and_true] at hk hf
      have hBw : ByG (.slice (some ⟨BB, 0, none⟩) bl bc) w := HB.out.rk hR
      have e103 : a.tmps[103]?.getD undef = .slice (some ⟨BB, 0, none⟩) bl bc := evF (show a.eval (.tmp 103) = .slice (some ⟨BB, 0, none⟩) bl bc from hk.1)
      obtain ⟨x107, ex107, hw107⟩ := (show NumG .i64 (a.eval (.tmp 107)) from hk.2)
      have e107 := evF ex107
      have HW107 := Lib.hid hw107
      clear ex107 hw107
      clear hk
      exact flow_run (v := .agg #[.int .i64 2, .slice none 0 0, .slice (some ⟨BB, 0, none⟩) bl bc, .int .u64 0, .int .i64 x107, .int .i64 0]) (by go_simp) (RK.refl _ _) (show DG _ _ from deedG ByG.nil hBw rfl rfl HW107.out rfl)
    -- 109
    refine ⟨fun a w hR hk hf => ?_, ?_⟩
    · simp only [KnowF, FreeF, frN, and_true] at hk hf
      refine flow_call (f := 13) (args := #[.int .i64 1]) (by go_simp) ((key_any 1 w (by decide) (by decide)).mono ?_)
      rintro e w' ⟨v, rfl, hk1, hb1⟩
      exact ⟨v, rfl, RK.of_but hb1, hk1⟩
    -- 110
    refine ⟨fun a w hR hk hf => ?_, ?_⟩
    · simp only [KnowF, FreeF, frN, and_true] at hk hf
      have e14 : a.tmps[14]?.getD undef = .slice (some ⟨BB, 0, none⟩) bl bc := evF hf
      exact flow_run (v := .slice (some ⟨BB, 0, none⟩) bl bc) (by go_simp) (RK.refl _ _) rfl
    -- 111
    refine ⟨fun a w hR hk hf => ?_, ?_⟩
    · simp only [KnowF, FreeF, frN, and_true] at hk hf
      have e1 : a.tmps[1]?.getD undef = .slice (some ⟨NB, 0, none⟩) 11 11 := evF hf
      exact flow_run (v := .slice (some ⟨NB, 0, none⟩) 11 11) (by go_simp) (RK.refl _ _) rfl
    -- 112
    refine ⟨fun a w hR hk hf => ?_, ?_⟩
    · simp only [KnowF, FreeF, frN, and_true] at hk hf
      have e11 : a.tmps[11]?.getD undef = .int .i64 (i : Int) := evF hf
      exact flow_run (v := .int .i64 (i : Int)) (by go_simp) (RK.refl _ _) rfl
    -- 113
    refine ⟨fun a w hR hk hf => ?_, ?_⟩
    · simp only [KnowF, FreeF, frN, and_true] at hk hf
      have e111 : a.tmps[111]?.getD undef = .slice (some ⟨NB, 0, none⟩) 11 11 := evF (show a.eval (.tmp 111) = .slice (some ⟨NB, 0, none⟩) 11 11 from hk.1)
      have e112 : a.tmps[112]?.getD undef = .int .i64 (i : Int) := evF (show a.eval (.tmp 112) = .int .i64 (i : Int) from hk.2)
      exact flow_run (v := .pointer (some ⟨NB, i, none⟩)) (by go_simp) (RK.refl _ _) rfl
    -- 114
    refine ⟨fun a w hR hk hf => ?_, ?_⟩
    · simp only [KnowF, FreeF, frN, and_true] at hk hf
      have e113 : a.tmps[113]?.getD undef = .pointer (some ⟨NB, i, none⟩) := evF (show a.eval (.tmp 113) = .pointer (some ⟨NB, i, none⟩) from hk)
      obtain ⟨x, hx, hxw⟩ := num_at hi11 HN.out (by rw [← HN0.out]; exact hR)
      exact flow_run (v := .int .i64 x) (by go_simp) (RK.refl _ _) (show NumG .i64 _ from ⟨x, rfl, hxw⟩)
    -- 115
    refine ⟨fun a w hR hk hf => ?_, ?_⟩
    · simp only [KnowF, FreeF, frN, and_true] at hk hf
      obtain ⟨x, ex, hxw⟩ := (show NumG .i64 (a.eval (.tmp 114)) from hk)
      have e114 := evF ex
      clear hxw ex
      exact flow_run (v := .int .u64 (IntKind.u64.wrap x)) (by go_simp) (RK.refl _ _) (show NumG .u64 _ from ⟨_, rfl, wf_wrapU _⟩)
    -- 116
    refine ⟨fun a w hR hk hf => ?_, ?_⟩
    · simp only [KnowF, FreeF, frN, and_true] at hk hf
      have hBw : ByG (.slice (some ⟨BB, 0, none⟩) bl bc) w := HB.out.rk hR
      obtain ⟨g109, ks109, ex109, hA109, hB109, hC109, hD109⟩ := (show KeyG (a.eval (.tmp 109)) w from hk.1)
      have e109 := evF ex109
      rw [ex109] at hC109
      have HG109 : Hid (ByG (.slice (some ⟨g109, 0, none⟩) 4 4) w) := Lib.hid (KeyG.by ⟨g109, ks109, rfl, hA109, hB109, hC109, hD109⟩)
      clear ex109 hA109 hB109 hC109 hD109
      have e110 : a.tmps[110]?.getD undef = .slice (some ⟨BB, 0, none⟩) bl bc := evF (show a.eval (.tmp 110) = .slice (some ⟨BB, 0, none⟩) bl bc from hk.2.1)
      obtain ⟨x115, ex115, hw115⟩ := (show NumG .u64 (a.eval (.tmp 115)) from hk.2.2)
      have e115 := evF ex115
      have HW115 := Lib.hid hw115
      clear ex115 hw115
      clear hk
      exact flow_run (v := .agg #[.int .i64 0, .slice (some ⟨g109, 0, none⟩) 4 4, .slice (some ⟨BB, 0, none⟩) bl bc, .int .u64 x115, .int .i64 1, .int .i64 0]) (by go_simp) (RK.refl _ _) (show DG _ _ from deedG HG109.out hBw rfl HW115.out rfl rfl)
    -- 117
    refine ⟨fun a w hR hk hf => ?_, ?_⟩
    · simp only [KnowF, FreeF, frN, and_true] at hk hf
      have e1 : a.tmps[1]?.getD undef = .slice (some ⟨NB, 0, none⟩) 11 11 := evF hf
      exact flow_run (v := .slice (some ⟨NB, 0, none⟩) 11 11) (by go_simp) (RK.refl _ _) rfl
    -- 118
    refine ⟨fun a w hR hk hf => ?_, ?_⟩
    · simp only [KnowF, FreeF, frN, and_true] at hk hf
      have e13 : a.tmps[13]?.getD undef = .int .i64 (k : Int) := evF hf
      exact flow_run (v := .int .i64 (k : Int)) (by go_simp) (RK.refl _ _) rfl
    -- 119
    refine ⟨fun a w hR hk hf => ?_, ?_⟩
    · simp only [KnowF, FreeF, frN, and_true] at hk hf
      have e117 : a.tmps[117]?.getD undef = .slice (some ⟨NB, 0, none⟩) 11 11 := evF (show a.eval (.tmp 117) = .slice (some ⟨NB, 0, none⟩) 11 11 from hk.1)
      have e118 : a.tmps[118]?.getD undef = .int .i64 (k : Int) := evF (show a.eval (.tmp 118) = .int .i64 (k : Int) from hk.2)
      exact flow_run (v := .pointer (some ⟨NB, k, none⟩)) (by go_simp) (RK.refl _ _) rfl
    -- 120
    refine ⟨fun a w hR hk hf => ?_, ?_⟩
    · simp only [KnowF, FreeF, frN, and_true] at hk hf
      have e119 : a.tmps[119]?.getD undef = .pointer (some ⟨NB, k, none⟩) := evF (show a.eval (.tmp 119) = .pointer (some ⟨NB, k, none⟩) from hk)
      obtain ⟨x, hx, hxw⟩ := num_at hk11 HN.out (by rw [← HN0.out]; exact hR)
      exact flow_run (v := .int .i64 x) (by go_simp) (RK.refl _ _) (show NumG .i64 _ from ⟨x, rfl, hxw⟩)
    -- 121
    refine ⟨fun a w hR hk hf => ?_, ?_⟩
    · simp only [KnowF, FreeF, frN, and_true] at hk hf
      obtain ⟨x, ex, hxw⟩ := (show NumG .i64 (a.eval (.tmp 120)) from hk)
      have e120 := evF ex
      have HW := Lib.hid (lit_boundsK hxw)
      clear hxw ex hk
      refine flow_call (f := 13) (args := #[.int .i64 x]) (by go_simp) ((key_any x w HW.out.1 HW.out.2).mono ?_)
      rintro e w' ⟨v, rfl, hk1, hb1⟩
      exact ⟨v, rfl, RK.of_but hb1, hk1⟩
    -- 122
    refine ⟨fun a w hR hk hf => ?_, ?_⟩
    · simp only [KnowF, FreeF, frN, and_true] at hk hf
      have hz : n0 ≤ w.heap.size := by have := hR.size; rw [HN0.out]; exact this
      exact flow_run (v := .slice (some ⟨w.heap.size, 0, none⟩) 3 3) (w' := w.alloc (.cells #[.int .u8 120, .int .u8 121, .int .u8 122] 5)) (by go_simp) (RK.of_but ((But.refl [] w).alloc _)) (show RawG _ _ n0 [120, 121, 122] from ⟨_, _, rfl, hz, al_at _ _⟩)
    -- 123
    refine ⟨fun a w hR hk hf => ?_, ?_⟩
    · simp only [KnowF, FreeF, frN, and_true] at hk hf
      obtain ⟨g, f, ex, hg, hc⟩ := (show RawG (a.eval (.tmp 122)) w n0 [120, 121, 122] from hk)
      have e122 := evF ex
      have hcv := run_convert_mark w 36 5 _ f g 3 3 hc Tryz.underlying36 Tryz.underlying5
      have HK := Lib.hid (rk_freeze hc hg (u8s [120, 121, 122]).toArray.size)
      have HR := Lib.hid (((show RawG (.slice (some ⟨g, 0, none⟩) 3 3) w n0 [120, 121, 122] from ⟨g, f, rfl, hg, hc⟩).rk HK.out).by (by decide) (by intro z hz; simp only [List.mem_cons, List.not_mem_nil, or_false] at hz; omega))
      clear hc ex hk
      exact flow_run (v := .slice (some ⟨g, 0, none⟩) 3 3) (by go_simp) HK.out (show ByG _ _ from HR.out)
    -- 124
    refine ⟨fun a w hR hk hf => ?_, ?_⟩
    · simp only [KnowF, FreeF, frN, and_true] at hk hf
      obtain ⟨g121, ks121, ex121, hA121, hB121, hC121, hD121⟩ := (show KeyG (a.eval (.tmp 121)) w from hk.1)
      have e121 := evF ex121
      rw [ex121] at hC121
      have HG121 : Hid (ByG (.slice (some ⟨g121, 0, none⟩) 4 4) w) := Lib.hid (KeyG.by ⟨g121, ks121, rfl, hA121, hB121, hC121, hD121⟩)
      clear ex121 hA121 hB121 hC121 hD121
      obtain ⟨a123, c123, ks123, ex123, hA123, hB123, hC123, hD123⟩ := (show ByG (a.eval (.tmp 123)) w from hk.2)
      have e123 := evF ex123
      rw [ex123] at hC123 hD123
      have HG123 : Hid (ByG (.slice a123 (u8s ks123).length c123) w) := Lib.hid ⟨a123, c123, ks123, rfl, hA123, hB123, hC123, hD123⟩
      clear ex123 hA123 hB123 hC123 hD123
      clear hk
      exact flow_run (v := .agg #[.int .i64 0, .slice (some ⟨g121, 0, none⟩) 4 4, .slice a123 (u8s ks123).length c123, .int .u64 0, .int .i64 0, .int .i64 0]) (by go_simp) (RK.refl _ _) (show DG _ _ from deedG HG121.out HG123.out rfl rfl rfl rfl)
    -- 125
    refine ⟨fun a w hR hk hf => ?_, ?_⟩
    · simp only [KnowF, FreeF, frN, and_true] at hk hf
      have e1 : a.tmps[1]?.getD undef = .slice (some ⟨NB, 0, none⟩) 11 11 := evF hf
      exact flow_run (v := .slice (some ⟨NB, 0, none⟩) 11 11) (by go_simp) (RK.refl _ _) rfl
    -- 126
    refine ⟨fun a w hR hk hf => ?_, ?_⟩
    · simp only [KnowF, FreeF, frN, and_true] at hk hf
      have e13 : a.tmps[13]?.getD undef = .int .i64 (k : Int) := evF hf
      exact flow_run (v := .int .i64 (k : Int)) (by go_simp) (RK.refl _ _) rfl
    -- 127
    refine ⟨fun a w hR hk hf => ?_, ?_⟩
    · simp only [KnowF, FreeF, frN, and_true] at hk hf
      have e125 : a.tmps[125]?.getD undef = .slice (some ⟨NB, 0, none⟩) 11 11 := evF (show a.eval (.tmp 125) = .slice (some ⟨NB, 0, none⟩) 11 11 from hk.1)
      have e126 : a.tmps[126]?.getD undef = .int .i64 (k : Int) := evF (show a.eval (.tmp 126) = .int .i64 (k : Int) from hk.2)
      exact flow_run (v := .pointer (some ⟨NB, k, none⟩)) (by go_simp) (RK.refl _ _) rfl
    -- 128
    refine ⟨fun a w hR hk hf => ?_, ?_⟩
    · simp only [KnowF, FreeF, frN, and_true] at hk hf
      have e127 : a.tmps[127]?.getD undef = .pointer (some ⟨NB, k, none⟩) := evF (show a.eval (.tmp 127) = .pointer (some ⟨NB, k, none⟩) from hk)
      obtain ⟨x, hx, hxw⟩ := num_at hk11 HN.out (by rw [← HN0.out]; exact hR)
      exact flow_run (v := .int .i64 x) (by go_simp) (RK.refl _ _) (show NumG .i64 _ from ⟨x, rfl, hxw⟩)
    -- 129
    refine ⟨fun a w hR hk hf => ?_, ?_⟩
    · simp only [KnowF, FreeF, frN, and_true] at hk hf
      obtain ⟨x, ex, hxw⟩ := (show NumG .i64 (a.eval (.tmp 128)) from hk)
      have e128 := evF ex
      clear hxw ex hk
      exact flow_run (v := .int .i64 (if x < 0 then 0 else x)) (by go_simp) (RK.refl _ _) (show PosG _ from ⟨_, rfl, by split <;> omega⟩)
    -- 130
    refine ⟨fun a w hR hk hf => ?_, ?_⟩
    · simp only [KnowF, FreeF, frN, and_true] at hk hf
      obtain ⟨x, ex, hx0⟩ := (show PosG (a.eval (.tmp 129)) from hk)
      have e129 := evF ex
      clear ex hk
      exact flow_run (v := .int .i64 (if 6 < x then 6 else x)) (by go_simp) (RK.refl _ _) (show NatG 6 _ from ⟨(if 6 < x then 6 else x).toNat, by congr 1; split <;> omega, by split <;> omega⟩)
    -- 131
    refine ⟨fun a w hR hk hf => ?_, ?_⟩
    · simp only [KnowF, FreeF, frN, and_true] at hk hf
      obtain ⟨m, ex, hm6⟩ := (show NatG 6 (a.eval (.tmp 130)) from hk)
      have e130 := evF ex
      have hmk := HMK.out w m hm6
      clear ex hk
      have HG : Hid (ByG (.slice (some ⟨w.heap.size, 0, none⟩) m m) (w.alloc (.cells (madeCells #[.int .u8 0] m) 5))) := Lib.hid ((show RawG (.slice (some ⟨w.heap.size, 0, none⟩) m m) (w.alloc (.cells (madeCells #[.int .u8 0] m) 5)) 0 (List.replicate m 0) from ⟨w.heap.size, _, by simp, Nat.zero_le _, by rw [← zero_row]; exact al_at _ _⟩).by (by simpa using hm6) (fun z hz => by have := List.eq_of_mem_replicate hz; omega))
      exact flow_run (v := .slice (some ⟨w.heap.size, 0, none⟩) m m) (by go_simp) (RK.of_but ((But.refl [] w).alloc _)) (show ByG _ _ from HG.out)
    -- 132
    refine ⟨fun a w hR hk hf => ?_, ?_⟩
    · simp only [KnowF, FreeF, frN, and_true] at hk hf
      obtain ⟨a131, c131, ks131, ex131, hA131, hB131, hC131, hD131⟩ := (show ByG (a.eval (.tmp 131)) w from hk)
      have e131 := evF ex131
      rw [ex131] at hC131 hD131
      have HG131 : Hid (ByG (.slice a131 (u8s ks131).length c131) w) := Lib.hid ⟨a131, c131, ks131, rfl, hA131, hB131, hC131, hD131⟩
      clear ex131 hA131 hB131 hC131 hD131
      clear hk
      exact flow_run (v := .agg #[.int .i64 1, .slice a131 (u8s ks131).length c131, .slice none 0 0, .int .u64 0, .int .i64 0, .int .i64 0]) (by go_simp) (RK.refl _ _) (show DG _ _ from deedG HG131.out ByG.nil rfl rfl rfl rfl)
    -- 133
    refine ⟨fun a w hR hk hf => ?_, ?_⟩
    · simp only [KnowF, FreeF, frN, and_true] at hk hf
      refine flow_call (f := 13) (args := #[.int .i64 1]) (by go_simp) ((key_any 1 w (by decide) (by decide)).mono ?_)
      rintro e w' ⟨v, rfl, hk1, hb1⟩
      exact ⟨v, rfl, RK.of_but hb1, hk1⟩
    -- 134
    refine ⟨fun a w hR hk hf => ?_, ?_⟩
    · simp only [KnowF, FreeF, frN, and_true] at hk hf
      have e11 : a.tmps[11]?.getD undef = .int .i64 (i : Int) := evF hf
      exact flow_run (v := .int .i64 (i : Int)) (by go_simp) (RK.refl _ _) rfl
    -- 135
    refine ⟨fun a w hR hk hf => ?_, ?_⟩
    · simp only [KnowF, FreeF, frN, and_true] at hk hf
      have e134 : a.tmps[134]?.getD undef = .int .i64 (i : Int) := evF (show a.eval (.tmp 134) = .int .i64 (i : Int) from hk)
      exact flow_run (v := .int .i64 ((i : Int).tmod 5)) (by go_simp) (RK.refl _ _) (show NatG 4 _ from ⟨i % 5, by rw [Int.tmod_eq_emod_of_nonneg (by omega)]; congr 1, by omega⟩)
    -- 136
    refine ⟨fun a w hR hk hf => ?_, ?_⟩
    · simp only [KnowF, FreeF, frN, and_true] at hk hf
      obtain ⟨g, ks, ex, hA, hB1, hC, hD⟩ := (show KeyG (a.eval (.tmp 133)) w from hk.1)
      obtain ⟨m, ey, hm4⟩ := (show NatG 4 (a.eval (.tmp 135)) from hk.2)
      have e133 := evF ex
      have e135 := evF ey
      rw [ex] at hC
      have HG : Hid (ByG (.slice (some ⟨g, 0, none⟩) m 4) w) := Lib.hid (KeyG.cut (⟨g, ks, rfl, hA, hB1, hC, hD⟩ : KeyG (.slice (some ⟨g, 0, none⟩) 4 4) w) hm4)
      have h1 : (0 : Int) ≤ m := by omega
      have h2 : (m : Int) ≤ 4 := by omega
      clear ex ey hA hB1 hC hD hk
      exact flow_run (v := .slice (some ⟨g, 0, none⟩) m 4) (by go_simp) (RK.refl _ _) (show ByG _ _ from HG.out)
    -- 137
    refine ⟨fun a w hR hk hf => ?_, ?_⟩
    · simp only [KnowF, FreeF, frN, and_true] at hk hf
      have hz : n0 ≤ w.heap.size := by have := hR.size; rw [HN0.out]; exact this
      exact flow_run (v := .slice (some ⟨w.heap.size, 0, none⟩) 3 3) (w' := w.alloc (.cells #[.int .u8 117, .int .u8 118, .int .u8 119] 5)) (by go_simp) (RK.of_but ((But.refl [] w).alloc _)) (show RawG _ _ n0 [117, 118, 119] from ⟨_, _, rfl, hz, al_at _ _⟩)
    -- 138
    refine ⟨fun a w hR hk hf => ?_, ?_⟩
    · simp only [KnowF, FreeF, frN, and_true] at hk hf
      obtain ⟨g, f, ex, hg, hc⟩ := (show RawG (a.eval (.tmp 137)) w n0 [117, 118, 119] from hk)
      have e137 := evF ex
      have hcv := run_convert_mark w 36 5 _ f g 3 3 hc Tryz.underlying36 Tryz.underlying5
      have HK := Lib.hid (rk_freeze hc hg (u8s [117, 118, 119]).toArray.size)
      have HR := Lib.hid (((show RawG (.slice (some ⟨g, 0, none⟩) 3 3) w n0 [117, 118, 119] from ⟨g, f, rfl, hg, hc⟩).rk HK.out).by (by decide) (by intro z hz; simp only [List.mem_cons, List.not_mem_nil, or_false] at hz; omega))
      clear hc ex hk
      exact flow_run (v := .slice (some ⟨g, 0, none⟩) 3 3) (by go_simp) HK.out (show ByG _ _ from HR.out)
    -- 139
    refine ⟨fun a w hR hk hf => ?_, ?_⟩
    · simp only [KnowF, FreeF, frN, and_true] at hk hf
      obtain ⟨a136, c136, ks136, ex136, hA136, hB136, hC136, hD136⟩ := (show ByG (a.eval (.tmp 136)) w from hk.1)
      have e136 := evF ex136
      rw [ex136] at hC136 hD136
      have HG136 : Hid (ByG (.slice a136 (u8s ks136).length c136) w) := Lib.hid ⟨a136, c136, ks136, rfl, hA136, hB136, hC136, hD136⟩
      clear ex136 hA136 hB136 hC136 hD136
      obtain ⟨a138, c138, ks138, ex138, hA138, hB138, hC138, hD138⟩ := (show ByG (a.eval (.tmp 138)) w from hk.2)
      have e138 := evF ex138
      rw [ex138] at hC138 hD138
      have HG138 : Hid (ByG (.slice a138 (u8s ks138).length c138) w) := Lib.hid ⟨a138, c138, ks138, rfl, hA138, hB138, hC138, hD138⟩
      clear ex138 hA138 hB138 hC138 hD138
      clear hk
      exact flow_run (v := .agg #[.int .i64 0, .slice a136 (u8s ks136).length c136, .slice a138 (u8s ks138).length c138, .int .u64 0, .int .i64 0, .int .i64 0]) (by go_simp) (RK.refl _ _) (show DG _ _ from deedG HG136.out HG138.out rfl rfl rfl rfl)
    -- 140
    refine ⟨fun a w hR hk hf => ?_, ?_⟩
    · simp only [KnowF, FreeF, frN, and_true] at hk hf
      refine flow_call (f := 13) (args := #[.int .i64 0]) (by go_simp) ((key_any 0 w (by decide) (by decide)).mono ?_)
      rintro e w' ⟨v, rfl, hk1, hb1⟩
      exact ⟨v, rfl, RK.of_but hb1, hk1⟩
    -- 141
    refine ⟨fun a w hR hk hf => ?_, ?_⟩
    · simp only [KnowF, FreeF, frN, and_true] at hk hf
      obtain ⟨g140, ks140, ex140, hA140, hB140, hC140, hD140⟩ := (show KeyG (a.eval (.tmp 140)) w from hk)
      have e140 := evF ex140
      rw [ex140] at hC140
      have HG140 : Hid (ByG (.slice (some ⟨g140, 0, none⟩) 4 4) w) := Lib.hid (KeyG.by ⟨g140, ks140, rfl, hA140, hB140, hC140, hD140⟩)
      clear ex140 hA140 hB140 hC140 hD140
      clear hk
      exact flow_run (v := .agg #[.int .i64 4, .slice (some ⟨g140, 0, none⟩) 4 4, .slice none 0 0, .int .u64 0, .int .i64 0, .int .i64 0]) (by go_simp) (RK.refl _ _) (show DG _ _ from deedG HG140.out ByG.nil rfl rfl rfl rfl)
    -- 142
    refine ⟨fun a w hR hk hf => ?_, ?_⟩
    · simp only [KnowF, FreeF, frN, and_true] at hk hf
      obtain ⟨d0, ex0, ht0⟩ := (show DG (a.eval (.tmp 102)) w from hk.1)
      have e102 := evF ex0
      obtain ⟨d1, ex1, ht1⟩ := (show DG (a.eval (.tmp 108)) w from hk.2.1)
      have e108 := evF ex1
      obtain ⟨d2, ex2, ht2⟩ := (show DG (a.eval (.tmp 116)) w from hk.2.2.1)
      have e116 := evF ex2
      obtain ⟨d3, ex3, ht3⟩ := (show DG (a.eval (.tmp 124)) w from hk.2.2.2.1)
      have e124 := evF ex3
      obtain ⟨d4, ex4, ht4⟩ := (show DG (a.eval (.tmp 132)) w from hk.2.2.2.2.1)
      have e132 := evF ex4
      obtain ⟨d5, ex5, ht5⟩ := (show DG (a.eval (.tmp 139)) w from hk.2.2.2.2.2.1)
      have e139 := evF ex5
      obtain ⟨d6, ex6, ht6⟩ := (show DG (a.eval (.tmp 141)) w from hk.2.2.2.2.2.2)
      have e141 := evF ex6
      have HT : Hid (∀ d ∈ [d0, d1, d2, d3, d4, d5, d6], DeedT w d) := Lib.hid (by intro d hd; simp only [List.mem_cons, List.not_mem_nil, or_false] at hd; rcases hd with rfl | rfl | rfl | rfl | rfl | rfl | rfl <;> assumption)
      clear hk ex0 ht0 ex1 ht1 ex2 ht2 ex3 ht3 ex4 ht4 ex5 ht5 ex6 ht6
      exact flow_run (v := .slice (some ⟨w.heap.size, 0, none⟩) 7 7) (w' := w.alloc (.cells ([d0, d1, d2, d3, d4, d5, d6].flatMap DeedA.cells).toArray 39)) (by go_simp; rfl) (RK.of_but ((But.refl [] w).alloc _)) (show SevG _ _ from ⟨_, _, rfl, rfl, ⟨_, al_at _ _⟩, fun d hd => (HT.out d hd).rk (RK.of_but (n0 := n0) ((But.refl [] w).alloc _))⟩)
    exact trivial
  · intro f w hR hG
    have e96 : f 96 = .slice la ds.length lc := hG 0 _ 96 (by decide) rfl rfl
    obtain ⟨g, ds7, e142, hl7, ⟨f7, hc7⟩, ht7⟩ := (show SevG (f 142) w from hG 46 _ 142 (by decide) rfl rfl)
    have hbw : But [] w0 w := by rw [HN0.out] at hR; exact hR.but
    have hrow := HL.out.new hbw
    have hnews : ∀ (j : Nat) (u : Value), (ds7.flatMap DeedA.cells)[j]? = some u → w.cell? ((⟨g, 0, none⟩ : Addr).add j) = some u := fun j u hj => by
      rw [add_at, Nat.zero_add, at_cells hc7]
      simpa using hj
    have hone : ∀ u ∈ ds7.flatMap DeedA.cells, u.oneCell' = true := fun u hu => by
      obtain ⟨d, hd, hu⟩ := List.mem_flatMap.1 hu
      have hok := (ht7 d hd).ok
      obtain ⟨a1, c1, e1⟩ := form_of hok.key
      obtain ⟨a2, c2, e2⟩ := form_of hok.b
      simp only [DeedA.cells, e1, e2, List.mem_cons, List.not_mem_nil, or_false] at hu
      rcases hu with rfl | rfl | rfl | rfl | rfl | rfl <;> rfl
    have HROW := Lib.hid hrow
    have HNEW := Lib.hid hnews
    have HONE := Lib.hid hone
    have HLEN : Hid ((ds7.flatMap DeedA.cells).length = 7 * 6) := Lib.hid (by rw [flat_lenD, hl7])
    have HBW := Lib.hid hbw
    have HBZ : Hid (base ≤ w.heap.size) := Lib.hid (Nat.le_trans hbase hbw.size)
    have KEY : Hid (∀ (v' : Value) (w' : World), w'.ownsRow base 39 6 v' (ds.length + 7) (ds.flatMap DeedA.cells ++ ds7.flatMap DeedA.cells) → w.grownBy w' (Value.slice la ds.length lc).ownBlock → ∃ a c, v' = .slice a (ds.length + 7) c ∧ RelN base w0 ds.length v' w') := Lib.hid fun v' w' hown hg => by
      obtain ⟨a, c, e⟩ := row_form hown
      have hm := RowD.more hrow (news := ds7) (fun d hd => ht7 d hd) (by rw [hl7]; exact hown) hg
      exact ⟨a, c, e, _, _, by rw [List.length_append, hl7], hm.1, (hbw.mono (by simp)).trans hm.2.1 (fun x hx => .inl hx), hm.2.2⟩
    clear hG hR hbw hrow hnews hone hc7 ht7 hl7
    simp only [List.drop_succ_cons, List.drop_zero]
    show wpList _ _ _ _ { tmps := List.toArray (u0 :: NUMS NB :: u2 :: u3 :: u4 :: u5 :: u6 :: u7 :: u8 :: u9 :: u10 :: .int .i64 (i : Int) :: .slice la ds.length lc :: .int .i64 (k : Int) :: .slice (some ⟨BB, 0, none⟩) bl bc :: u15 :: u16 :: u17 :: u18 :: u19 :: u20 :: u21 :: u22 :: u23 :: u24 :: u25 :: u26 :: u27 :: u28 :: u29 :: u30 :: u31 :: u32 :: u33 :: u34 :: u35 :: u36 :: u37 :: u38 :: u39 :: u40 :: u41 :: u42 :: u43 :: u44 :: u45 :: u46 :: u47 :: u48 :: u49 :: u50 :: u51 :: u52 :: u53 :: u54 :: u55 :: u56 :: u57 :: u58 :: u59 :: u60 :: u61 :: u62 :: u63 :: u64 :: u65 :: u66 :: u67 :: u68 :: u69 :: u70 :: u71 :: u72 :: u73 :: u74 :: u75 :: u76 :: u77 :: u78 :: u79 :: u80 :: u81 :: u82 :: u83 :: u84 :: u85 :: u86 :: u87 :: u88 :: u89 :: u90 :: u91 :: u92 :: u93 :: u94 :: u95 :: f 96 :: f 97 :: f 98 :: f 99 :: f 100 :: f 101 :: f 102 :: f 103 :: f 104 :: f 105 :: f 106 :: f 107 :: f 108 :: f 109 :: f 110 :: f 111 :: f 112 :: f 113 :: f 114 :: f 115 :: f 116 :: f 117 :: f 118 :: f 119 :: f 120 :: f 121 :: f 122 :: f 123 :: f 124 :: f 125 :: f 126 :: f 127 :: f 128 :: f 129 :: f 130 :: f 131 :: f 132 :: f 133 :: f 134 :: f 135 :: f 136 :: f 137 :: f 138 :: f 139 :: f 140 :: f 141 :: f 142 :: u143 :: u144 :: u145 :: u146 :: u147 :: u148 :: u149 :: u150 :: u151 :: u152 :: u153 :: u154 :: u155 :: u156 :: []), defers := [] } w
    go_wp2_with (at_builtin; refine wpList_append_own _ (by rfl) _ _ 25 (by rfl) base 39 j0 (.agg #[.int .i64 0, .slice none 0 0, .slice none 0 0, .int .u64 0, .int .i64 0, .int .i64 0]) 6 80 Tryz.underlying25 ki kz0 kz1 kz2 (by rfl) (by decide) _ ds.length (ds.flatMap DeedA.cells) (by first | rfl | exact e96) HROW.out.row ⟨g, 0, none⟩ 7 7 (ds7.flatMap DeedA.cells) (by first | rfl | exact e142) HLEN.out HNEW.out HONE.out (by unfold maxLen; omega) (by omega) HBZ.out ?_; intro v' w' hown hg hnil; obtain ⟨a', c', rfl, hrel⟩ := KEY.out v' w' hown hg; have HREL := Lib.hid hrel; clear hown hg hnil hrel)
    exact HQ.out _ _ _ _ _ _ _ _ _ _ _ _ _ _ _ _ _ _ _ _ _ _ _ _ _ _ _ _ _ _ _ _ _ _ _ _ _ _ _ _ _ _ _ _ _ _ _ _ _ _ HREL.out
end Go.Proofs.YtkgoblpddjpcnaaGreat.M
