/-
  cell's parts: the drawn statement of the iterator's round (printed by mkparts.py).
-/
import Derived.Test.YtmaeiifhmngllaaCellA
import Derived.Test.YtmaeiifhmngllaaFlowG
import Derived.Test.YtmaeiifhmngllaaAlloc
namespace Go.Proofs.Ytmaeiifhmngllaa.M
open Go.RowKit
set_option linter.unusedVariables false
set_option linter.unusedSectionVars false
set_option linter.unusedSimpArgs false
/-- The block of a code that bears a number. -/
def regionOf5 (n : Nat) : Code → Option Code
  | .region k ops b => if k = n then some (.region k ops b) else none
  | .seq a b => match regionOf5 n a with
    | some c => some c
    | none => regionOf5 n b
  | .block _ c => regionOf5 n c
  | .loop c => regionOf5 n c
  | .scope c => regionOf5 n c
  | .rangeFunc _ _ _ c => regionOf5 n c
  | .cond _ a b => match regionOf5 n a with
    | some c => some c
    | none => regionOf5 n b
  | _ => none
/-- Values that are known, and what number m made. -/
def GN (m : Nat) (N : Value → World → Prop) (vals : List Value) (i : Nat) (v : Value) (w : World) : Prop := (i = m → N v w) ∧ GV vals i v w
/-- A part of its own, of zeros. -/
def NewP (wr : World) (v : Value) (w : World) : Prop := ∃ g, v = .pointer (some ⟨g, 0, none⟩) ∧ wr.heap.size ≤ g ∧ w.heap[g]? = some (.cells #[.pointer none, .int .i64 0, .int .i64 0, .int .i64 0] 84)
theorem NewP.but {wr : World} {v : Value} {w w' : World} (h : NewP wr v w) (hb : But [] w w') : NewP wr v w' := by
  obtain ⟨g, e, hz, h⟩ := h
  exact ⟨g, e, hz, hb.heap h (by simp)⟩
noncomputable def code_p3 : Code := ((Try.f45.body.getD .skip |> regionOf5 3).getD .skip)
set_option maxRecDepth 100000 in
set_option maxHeartbeats 4000000 in
theorem rp3 (Q : Exit → Act → World → Prop) {wr : World} {l P B1 B2 B3 n at_ pl fr mn : Nat} (hpl : pl < 512) (hfr : fr ≤ 7) (hn : n ≤ 512) (hat : at_ < n) (HFR : Hid ((pl : Int).tmod 8 = fr)) (HMN : Hid ((if (n : Int) - at_ < 8 - (fr : Int) then (n : Int) - at_ else 8 - (fr : Int)) = mn)) (H1 : Hid (wr.cell? ⟨B1, 0, none⟩ = some (.int .i64 (n : Int)))) (H3 : Hid (wr.cell? ⟨B3, 0, none⟩ = some (.pointer (some ⟨P, 0, none⟩)))) {u4 u7 u8 u9 u10 u11 u12 u13 u14 u15 u16 u17 u18 u19 u20 u21 u22 u23 u24 u25 u26 u27 u28 u29 u30 u31 u32 u33 u34 u35 u36 u37 : Value} (hQ : ∀ (z14 z15 z16 z17 z18 z19 z20 z21 z22 z23 z24 z25 z26 z27 z28 z29 : Value) (g : Nat) (w6 : World), But [] wr w6 → wr.heap.size ≤ g → w6.heap[g]? = some (.cells #[.pointer (some ⟨P, pl / 8 * 13, none⟩), .int .i64 (fr : Int), .int .i64 (mn : Int), .int .i64 (at_ : Int)] 84) → Q .normal { tmps := List.toArray (.func (.yield l) #[] #[] :: .pointer (some ⟨B1, 0, none⟩) :: .pointer (some ⟨B2, 0, none⟩) :: .pointer (some ⟨B3, 0, none⟩) :: u4 :: .int .i64 (at_ : Int) :: .int .i64 (pl : Int) :: .pointer (some ⟨g, 0, none⟩) :: u8 :: u9 :: u10 :: u11 :: u12 :: u13 :: z14 :: z15 :: z16 :: z17 :: z18 :: z19 :: z20 :: z21 :: z22 :: z23 :: z24 :: z25 :: z26 :: z27 :: z28 :: z29 :: u30 :: u31 :: u32 :: u33 :: u34 :: u35 :: u36 :: u37 :: []), defers := [] } w6) :
    Code.wp Try.prog code_p3 Q { tmps := List.toArray (.func (.yield l) #[] #[] :: .pointer (some ⟨B1, 0, none⟩) :: .pointer (some ⟨B2, 0, none⟩) :: .pointer (some ⟨B3, 0, none⟩) :: u4 :: .int .i64 (at_ : Int) :: .int .i64 (pl : Int) :: u7 :: u8 :: u9 :: u10 :: u11 :: u12 :: u13 :: u14 :: u15 :: u16 :: u17 :: u18 :: u19 :: u20 :: u21 :: u22 :: u23 :: u24 :: u25 :: u26 :: u27 :: u28 :: u29 :: u30 :: u31 :: u32 :: u33 :: u34 :: u35 :: u36 :: u37 :: []), defers := [] } wr := by
  have HQ := Lib.hid hQ
  clear hQ
  conv => arg 2; whnf
  refine wp_region_flowS 17 (by decide) (by kernel_rfl) (But []) (fun _ _ _ h1 h2 => h1.trans h2 (by simp)) (⟨rfl, rfl, rfl, Nat.le_refl _, fun _ _ _ => rfl⟩) (GN 16 (NewP wr) [.pointer (some ⟨P, 0, none⟩), .pointer (some ⟨P, 0, none⟩), .pointer (some ⟨P, 0, none⟩), .int .i64 (pl : Int), .pointer (some ⟨P, pl / 8 * 13, none⟩), .int .i64 (pl : Int), .int .i64 (fr : Int), .int .i64 (pl : Int), .int .i64 (fr : Int), .int .i64 (8 - (fr : Int)), .int .i64 (n : Int), .int .i64 (at_ : Int), .int .i64 ((n : Int) - at_), .int .i64 (mn : Int), .int .i64 (at_ : Int), .agg #[.pointer (some ⟨P, pl / 8 * 13, none⟩), .int .i64 (fr : Int), .int .i64 (mn : Int), .int .i64 (at_ : Int)]]) [[], [(0, 14)], [(1, 15)], [], [(2, 16), (3, 17)], [], [(5, 19)], [], [(7, 21)], [(8, 22)], [], [], [(10, 24), (11, 25)], [(9, 23), (12, 26)], [], [(4, 18), (6, 20), (13, 27), (14, 28)], []] [[(3, .pointer (some ⟨B3, 0, none⟩))], [], [], [(6, .int .i64 (pl : Int))], [], [(6, .int .i64 (pl : Int))], [], [(6, .int .i64 (pl : Int))], [], [], [(1, .pointer (some ⟨B1, 0, none⟩))], [(5, .int .i64 (at_ : Int))], [], [], [(5, .int .i64 (at_ : Int))], [], []] (by kernel_rfl) (by kernel_rfl) (by kernel_rfl) (by kernel_rfl) ?_ (fun _ _ _ _ _ h hb => ⟨fun e => (h.1 e).but hb, h.2⟩) [none, none, none, none, none, none, none, some 7, none, none, none, none, none, none, some 14, some 15, some 16, some 17, some 18, some 19, some 20, some 21, some 22, some 23, some 24, some 25, some 26, some 27, some 28, some 29, none, none, none, none, none, none, none, none] (by kernel_rfl) (by rfl) ?_ ?_
  · exact ⟨⟨rfl, trivial⟩, trivial, trivial, ⟨rfl, trivial⟩, trivial, ⟨rfl, trivial⟩, trivial, ⟨rfl, trivial⟩, trivial, trivial, ⟨rfl, trivial⟩, ⟨rfl, trivial⟩, trivial, trivial, ⟨rfl, trivial⟩, trivial, trivial, trivial⟩
  · simp only [List.take_succ_cons, List.take_zero]
    -- 14
    refine ⟨fun a9 w9 hR hk hf => ?_, ?_⟩
    · simp only [KnowF, FreeF, and_true] at hk hf
      have e3 : a9.tmps[3]?.getD undef = .pointer (some ⟨B3, 0, none⟩) := freeF_ev hf
      have f0 := cell_but hR H3.out (by simp)
      exact flow_on (rfl) (flow_run (v := .pointer (some ⟨P, 0, none⟩)) (by go_simp) (But.refl _ _) ⟨fun h => absurd h (by decide), GV.of rfl⟩)
    -- 15
    refine ⟨fun a9 w9 hR hk hf => ?_, ?_⟩
    · simp only [KnowF, FreeF, and_true] at hk hf
      have e14 := (hk).2.ev (v := .pointer (some ⟨P, 0, none⟩)) rfl
      exact flow_on (rfl) (flow_run (v := .pointer (some ⟨P, 0, none⟩)) (by go_simp) (But.refl _ _) (⟨fun h => absurd h (by decide), GV.of rfl⟩))
    -- 16
    refine ⟨fun a9 w9 hR hk hf => ?_, ?_⟩
    · simp only [KnowF, FreeF, and_true] at hk hf
      have e15 := (hk).2.ev (v := .pointer (some ⟨P, 0, none⟩)) rfl
      exact flow_on (rfl) (flow_run (v := .pointer (some ⟨P, 0, none⟩)) (by go_simp) (But.refl _ _) (⟨fun h => absurd h (by decide), GV.of rfl⟩))
    -- 17
    refine ⟨fun a9 w9 hR hk hf => ?_, ?_⟩
    · simp only [KnowF, FreeF, and_true] at hk hf
      have e6 : a9.tmps[6]?.getD undef = .int .i64 (pl : Int) := freeF_ev hf
      exact flow_on (rfl) (flow_run (v := .int .i64 (pl : Int)) (by go_simp) (But.refl _ _) (⟨fun h => absurd h (by decide), GV.of rfl⟩))
    -- 18
    refine ⟨fun a9 w9 hR hk hf => ?_, ?_⟩
    · simp only [KnowF, FreeF, and_true] at hk hf
      have e16 := (hk.1).2.ev (v := .pointer (some ⟨P, 0, none⟩)) rfl
      have e17 := (hk.2).2.ev (v := .int .i64 (pl : Int)) rfl
      exact flow_on (rfl) (flow_call (f := 27) (args := #[.pointer (some ⟨P, 0, none⟩), .int .i64 (pl : Int)]) (by go_simp) ((rowAt P pl _ hpl).mono (by rintro e w' ⟨rfl, rfl⟩; exact ⟨_, rfl, But.refl _ _, ⟨fun h => absurd h (by decide), GV.of rfl⟩⟩)))
    -- 19
    refine ⟨fun a9 w9 hR hk hf => ?_, ?_⟩
    · simp only [KnowF, FreeF, and_true] at hk hf
      have e6 : a9.tmps[6]?.getD undef = .int .i64 (pl : Int) := freeF_ev hf
      exact flow_on (rfl) (flow_run (v := .int .i64 (pl : Int)) (by go_simp) (But.refl _ _) (⟨fun h => absurd h (by decide), GV.of rfl⟩))
    -- 20
    refine ⟨fun a9 w9 hR hk hf => ?_, ?_⟩
    · simp only [KnowF, FreeF, and_true] at hk hf
      have e19 := (hk).2.ev (v := .int .i64 (pl : Int)) rfl
      have hm := HFR.out
      exact flow_on (rfl) (flow_run (v := .int .i64 (fr : Int)) (by go_simp) (But.refl _ _) ⟨fun h => absurd h (by decide), GV.of rfl⟩)
    -- 21
    refine ⟨fun a9 w9 hR hk hf => ?_, ?_⟩
    · simp only [KnowF, FreeF, and_true] at hk hf
      have e6 : a9.tmps[6]?.getD undef = .int .i64 (pl : Int) := freeF_ev hf
      exact flow_on (rfl) (flow_run (v := .int .i64 (pl : Int)) (by go_simp) (But.refl _ _) (⟨fun h => absurd h (by decide), GV.of rfl⟩))
    -- 22
    refine ⟨fun a9 w9 hR hk hf => ?_, ?_⟩
    · simp only [KnowF, FreeF, and_true] at hk hf
      have e21 := (hk).2.ev (v := .int .i64 (pl : Int)) rfl
      have hm := HFR.out
      exact flow_on (rfl) (flow_run (v := .int .i64 (fr : Int)) (by go_simp) (But.refl _ _) ⟨fun h => absurd h (by decide), GV.of rfl⟩)
    -- 23
    refine ⟨fun a9 w9 hR hk hf => ?_, ?_⟩
    · simp only [KnowF, FreeF, and_true] at hk hf
      have e22 := (hk).2.ev (v := .int .i64 (fr : Int)) rfl
      have hw : IntKind.i64.wrap (8 - (fr : Int)) = 8 - (fr : Int) := by rw [IntKind.wrap_i64]; omega
      exact flow_on (rfl) (flow_run (v := .int .i64 (8 - (fr : Int))) (by go_simp) (But.refl _ _) ⟨fun h => absurd h (by decide), GV.of rfl⟩)
    -- 24
    refine ⟨fun a9 w9 hR hk hf => ?_, ?_⟩
    · simp only [KnowF, FreeF, and_true] at hk hf
      have e1 : a9.tmps[1]?.getD undef = .pointer (some ⟨B1, 0, none⟩) := freeF_ev hf
      have f0 := cell_but hR H1.out (by simp)
      exact flow_on (rfl) (flow_run (v := .int .i64 (n : Int)) (by go_simp) (But.refl _ _) ⟨fun h => absurd h (by decide), GV.of rfl⟩)
    -- 25
    refine ⟨fun a9 w9 hR hk hf => ?_, ?_⟩
    · simp only [KnowF, FreeF, and_true] at hk hf
      have e5 : a9.tmps[5]?.getD undef = .int .i64 (at_ : Int) := freeF_ev hf
      exact flow_on (rfl) (flow_run (v := .int .i64 (at_ : Int)) (by go_simp) (But.refl _ _) (⟨fun h => absurd h (by decide), GV.of rfl⟩))
    -- 26
    refine ⟨fun a9 w9 hR hk hf => ?_, ?_⟩
    · simp only [KnowF, FreeF, and_true] at hk hf
      have e24 := (hk.1).2.ev (v := .int .i64 (n : Int)) rfl
      have e25 := (hk.2).2.ev (v := .int .i64 (at_ : Int)) rfl
      have hw : IntKind.i64.wrap ((n : Int) - at_) = (n : Int) - at_ := by rw [IntKind.wrap_i64]; omega
      exact flow_on (rfl) (flow_run (v := .int .i64 ((n : Int) - at_)) (by go_simp) (But.refl _ _) ⟨fun h => absurd h (by decide), GV.of rfl⟩)
    -- 27
    refine ⟨fun a9 w9 hR hk hf => ?_, ?_⟩
    · simp only [KnowF, FreeF, and_true] at hk hf
      have e23 := (hk.1).2.ev (v := .int .i64 (8 - (fr : Int))) rfl
      have e26 := (hk.2).2.ev (v := .int .i64 ((n : Int) - at_)) rfl
      have hmn := HMN.out
      exact flow_on (rfl) (flow_run (v := .int .i64 (mn : Int)) (by go_simp) (But.refl _ _) ⟨fun h => absurd h (by decide), GV.of rfl⟩)
    -- 28
    refine ⟨fun a9 w9 hR hk hf => ?_, ?_⟩
    · simp only [KnowF, FreeF, and_true] at hk hf
      have e5 : a9.tmps[5]?.getD undef = .int .i64 (at_ : Int) := freeF_ev hf
      exact flow_on (rfl) (flow_run (v := .int .i64 (at_ : Int)) (by go_simp) (But.refl _ _) (⟨fun h => absurd h (by decide), GV.of rfl⟩))
    -- 29
    refine ⟨fun a9 w9 hR hk hf => ?_, ?_⟩
    · simp only [KnowF, FreeF, and_true] at hk hf
      have e18 := (hk.1).2.ev (v := .pointer (some ⟨P, pl / 8 * 13, none⟩)) rfl
      have e20 := (hk.2.1).2.ev (v := .int .i64 (fr : Int)) rfl
      have e27 := (hk.2.2.1).2.ev (v := .int .i64 (mn : Int)) rfl
      have e28 := (hk.2.2.2).2.ev (v := .int .i64 (at_ : Int)) rfl
      exact flow_on (rfl) (flow_run (v := .agg #[.pointer (some ⟨P, pl / 8 * 13, none⟩), .int .i64 (fr : Int), .int .i64 (mn : Int), .int .i64 (at_ : Int)]) (by go_simp) (But.refl _ _) (⟨fun h => absurd h (by decide), GV.of rfl⟩))
    -- 7
    refine ⟨fun a9 w9 hR hk hf => ?_, ?_⟩
    · simp only [KnowF, FreeF, and_true] at hk hf
      have hz := hR.size
      exact flow_on (rfl) (flow_run (v := .pointer (some ⟨w9.heap.size, 0, none⟩)) (w' := w9.alloc (.cells #[.pointer none, .int .i64 0, .int .i64 0, .int .i64 0] 84)) (by go_simp) ((But.refl [] w9).alloc _) ⟨fun _ => ⟨w9.heap.size, rfl, hz, al_at _ _⟩, fun u hu => by simp at hu⟩)
    exact trivial
  · intro f w5 hb5 hG
    have e29 : f 29 = .agg #[.pointer (some ⟨P, pl / 8 * 13, none⟩), .int .i64 (fr : Int), .int .i64 (mn : Int), .int .i64 (at_ : Int)] := (hG 15 _ 29 (by decide) rfl rfl).2 _ rfl
    obtain ⟨g, e7, hgz, hgc⟩ := (hG 16 _ 7 (by decide) rfl rfl).1 rfl
    have c0 := cl_of hgc 0
    have c1 := cl_of hgc 1
    have c2 := cl_of hgc 2
    have c3 := cl_of hgc 3
    simp only [List.getElem?_toArray, List.getElem?_cons_zero, List.getElem?_cons_succ] at c0 c1 c2 c3
    have f0 : w5.frozen? ⟨g, 0, none⟩ = false := by unfold World.frozen?; rw [hgc]; simp
    have f1 : w5.frozen? ⟨g, 1, none⟩ = false := by unfold World.frozen?; rw [hgc]; simp
    have f2 : w5.frozen? ⟨g, 2, none⟩ = false := by unfold World.frozen?; rw [hgc]; simp
    have f3 : w5.frozen? ⟨g, 3, none⟩ = false := by unfold World.frozen?; rw [hgc]; simp
    have HS := Lib.hid (heap_set (p := 3) (v := .int .i64 (at_ : Int)) (heap_set (p := 2) (v := .int .i64 (mn : Int)) (heap_set (p := 1) (v := .int .i64 (fr : Int)) (heap_set (p := 0) (v := .pointer (some ⟨P, pl / 8 * 13, none⟩)) hgc))))
    have HGZ := Lib.hid hgz
    have HBS : Hid (But [] wr ((((w5.setCell ⟨g, 0, none⟩ (.pointer (some ⟨P, pl / 8 * 13, none⟩))).setCell ⟨g, 1, none⟩ (.int .i64 (fr : Int))).setCell ⟨g, 2, none⟩ (.int .i64 (mn : Int))).setCell ⟨g, 3, none⟩ (.int .i64 (at_ : Int)))) := Lib.hid ((((hb5.setCell (.inr hgz) _).setCell (.inr hgz) _).setCell (.inr hgz) _).setCell (.inr hgz) _)
    clear hG hb5 hgz hgc
    simp only [List.drop_succ_cons, List.drop_zero]
    show wpList _ _ _ _ { tmps := List.toArray (.func (.yield l) #[] #[] :: .pointer (some ⟨B1, 0, none⟩) :: .pointer (some ⟨B2, 0, none⟩) :: .pointer (some ⟨B3, 0, none⟩) :: u4 :: .int .i64 (at_ : Int) :: .int .i64 (pl : Int) :: f 7 :: u8 :: u9 :: u10 :: u11 :: u12 :: u13 :: f 14 :: f 15 :: f 16 :: f 17 :: f 18 :: f 19 :: f 20 :: f 21 :: f 22 :: f 23 :: f 24 :: f 25 :: f 26 :: f 27 :: f 28 :: f 29 :: u30 :: u31 :: u32 :: u33 :: u34 :: u35 :: u36 :: u37 :: []), defers := [] } w5
    go_wp2_with fail
    rw [e7]
    exact HQ.out _ _ _ _ _ _ _ _ _ _ _ _ _ _ _ _ _ _ HBS.out HGZ.out HS.out
end Go.Proofs.Ytmaeiifhmngllaa.M
