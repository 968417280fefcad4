/-
  'RingNumbers': the region of its second loop, in whatever order (printed by mkrnum.py).
-/
import Derived.Test.YtlajffbjkgedhaaLivesB
import Derived.Test.YtlajffbjkgedhaaFlow
import Derived.Deep.DrawnRows
namespace Go.Proofs.Ytlajffbjkgedhaa.M
open Go.RowKit
set_option linter.unusedVariables false
set_option linter.unusedSectionVars false
set_option linter.unusedSimpArgs false
/-- The block of a code that bears a number. -/
def regionOf (n : Nat) : Code → Option Code
  | .region k ops b => if k = n then some (.region k ops b) else none
  | .seq a b => match regionOf n a with
    | some c => some c
    | none => regionOf n b
  | .block _ c => regionOf n c
  | .loop c => regionOf n c
  | .scope c => regionOf n c
  | .cond _ a b => match regionOf n a with
    | some c => some c
    | none => regionOf n b
  | _ => none
/-- All cells are as they were; old blocks are so wholly (of a newer one its mark may turn). -/
structure RK (n0 : Nat) (w w' : World) : Prop where
  os : w'.os = w.os
  tape : w'.tape = w.tape
  output : w'.output = w.output
  size : w.heap.size ≤ w'.heap.size
  old : ∀ k, k < n0 → k < w.heap.size → w'.heap[k]? = w.heap[k]?
  cells : ∀ (k : Nat) (C : Array Value) (t : TypeId) (f : Nat × Nat), w.heap[k]? = some (.cells C t f) → ∃ f', w'.heap[k]? = some (.cells C t f')
  reads : ∀ (p : Addr) (v : Value), w.cell? p = some v → w'.cell? p = some v
theorem RK.refl (n0 : Nat) (w : World) : RK n0 w w := ⟨rfl, rfl, rfl, Nat.le_refl _, fun _ _ _ => rfl, fun k C t f h => ⟨f, h⟩, fun _ _ h => h⟩
theorem RK.trans {n0 : Nat} {a b c : World} (h : RK n0 a b) (k : RK n0 b c) : RK n0 a c :=
  ⟨k.os.trans h.os, k.tape.trans h.tape, k.output.trans h.output, Nat.le_trans h.size k.size, fun i hi ha => (k.old i hi (Nat.lt_of_lt_of_le ha h.size)).trans (h.old i hi ha), fun i C t f hi => by
    obtain ⟨f1, h1⟩ := h.cells i C t f hi
    exact k.cells i C t f1 h1, fun p v hp => k.reads p v (h.reads p v hp)⟩
theorem RK.of_but {n0 : Nat} {a b : World} (h : But [] a b) : RK n0 a b :=
  ⟨h.os, h.tape, h.output, h.size, fun k _ hk => h.block k hk (by simp), fun k C t f hk => ⟨f, h.heap hk (by simp)⟩, fun p v hp => cell_but h hp (by simp)⟩
theorem RK.draw (n0 : Nat) (w : World) : RK n0 w { w with drawn := w.drawn + 1 } := RK.of_but (⟨rfl, rfl, rfl, Nat.le_refl _, fun _ _ _ => rfl⟩ : But [] w { w with drawn := w.drawn + 1 })
theorem RK.but {a b : World} (h : RK a.heap.size a b) : But [] a b := ⟨h.os, h.tape, h.output, h.size, fun k hk _ => h.old k hk hk⟩
theorem Sees.rk {n0 : Nat} {w w' : World} {s : Value} {xs : List Value} (h : Sees w s xs) (hb : RK n0 w w') : Sees w' s xs := by
  rcases h with h | ⟨ad, c, rfl, hc, hx⟩
  · exact .inl h
  · exact .inr ⟨ad, c, rfl, hc, fun j u hj => hb.reads _ _ (hx j u hj)⟩
theorem run_convert_mark {P : Program} (w : World) (t e : TypeId) (C : Array Value) (f : Nat × Nat) (g n c : Nat) (hg : w.heap[g]? = some (.cells C e f)) (ht : P.underlying t = some (.slice e)) (he : P.underlying e = some (.int .u8)) :
    (convert t t (.slice (some ⟨g, 0, none⟩) n c)).run P w = .ok (.slice (some ⟨g, 0, none⟩) n c) (w.freeze ⟨g, C.size, none⟩ 1) := by
  have hsh : w.shape? g = some (e, C.size) := by
    unfold World.shape?
    rw [hg]
  simp [convert, run_underlying ht, run_underlying he, markStringish, hsh]
theorem freeze_heap {w : World} {g : Nat} {C : Array Value} {e : TypeId} {f : Nat × Nat} (hg : w.heap[g]? = some (.cells C e f)) (m : Nat) : ∃ f', (w.freeze ⟨g, m, none⟩ 1).heap[g]? = some (.cells C e f') ∧ ∀ k, k ≠ g → (w.freeze ⟨g, m, none⟩ 1).heap[k]? = w.heap[k]? := by
  unfold World.freeze
  rw [if_neg (by decide)]
  refine ⟨_, by simp only [Array.getElem?_modify, if_true, hg, Option.map_some]; rfl, fun k hk => ?_⟩
  simp only [Array.getElem?_modify]
  rw [if_neg (Ne.symm hk)]
theorem rk_freeze {n0 : Nat} {w : World} {g : Nat} {C : Array Value} {e : TypeId} {f : Nat × Nat} (hg : w.heap[g]? = some (.cells C e f)) (hn : n0 ≤ g) (m : Nat) : RK n0 w (w.freeze ⟨g, m, none⟩ 1) := by
  obtain ⟨f', h1, h2⟩ := freeze_heap hg m
  have hfz : w.freeze ⟨g, m, none⟩ 1 = { w with heap := (w.freeze ⟨g, m, none⟩ 1).heap } := by
    unfold World.freeze
    rw [if_neg (by decide)]
  have hsz : (w.freeze ⟨g, m, none⟩ 1).heap.size = w.heap.size := by
    unfold World.freeze
    rw [if_neg (by decide)]
    simp
  refine ⟨by rw [hfz], by rw [hfz], by rw [hfz], by omega, fun k hk _ => h2 k (by omega), fun k C' t' f'' hk => ?_, fun p v hp => ?_⟩
  · by_cases e : k = g
    · subst e
      rw [hg] at hk
      cases hk
      exact ⟨f', h1⟩
    · exact ⟨f'', by rw [h2 k e]; exact hk⟩
  · by_cases e : p.block = g
    · unfold World.cell? at hp ⊢
      rw [e, hg] at hp
      rw [e, h1]
      exact hp
    · rw [World.cell?_of_block (w := w) (h2 _ e)]
      exact hp
def MadeG (k : Nat) (v : Value) (w : World) : Prop := ∃ g, v = .slice (some ⟨g, 0, none⟩) k k ∧ Sees w v (List.replicate k (.int .u8 0))
def AggG (xs : List Value) (v : Value) (w : World) : Prop := ∃ a k c, v = .agg #[.bool false, .slice a k c] ∧ Sees w (.slice a k c) xs
def RawX (n0 : Nat) (v : Value) (w : World) : Prop := ∃ g f, v = .slice (some ⟨g, 0, none⟩) 1 1 ∧ n0 ≤ g ∧ w.heap[g]? = some (.cells #[.int .u8 120] 5 f)
def ByX (v : Value) (w : World) : Prop := ∃ g, v = .slice (some ⟨g, 0, none⟩) 1 1 ∧ Sees w v [.int .u8 120]
theorem MadeG.rk {n0 k : Nat} {v : Value} {w w' : World} (h : MadeG k v w) (hb : RK n0 w w') : MadeG k v w' := by
  obtain ⟨g, e, h⟩ := h
  exact ⟨g, e, h.rk hb⟩
theorem AggG.rk {n0 : Nat} {xs : List Value} {v : Value} {w w' : World} (h : AggG xs v w) (hb : RK n0 w w') : AggG xs v w' := by
  obtain ⟨a, k, c, e, h⟩ := h
  exact ⟨a, k, c, e, h.rk hb⟩
theorem RawX.rk {n0 m : Nat} {v : Value} {w w' : World} (h : RawX m v w) (hb : RK n0 w w') : RawX m v w' := by
  obtain ⟨g, f, e, hg, h⟩ := h
  obtain ⟨f', h'⟩ := hb.cells _ _ _ _ h
  exact ⟨g, f', e, hg, h'⟩
theorem ByX.rk {n0 : Nat} {v : Value} {w w' : World} (h : ByX v w) (hb : RK n0 w w') : ByX v w' := by
  obtain ⟨g, e, h⟩ := h
  exact ⟨g, e, h.rk hb⟩
theorem evF {a : Act} {s : Nat} {v : Value} (h : a.eval (.tmp s) = v) : a.tmps[s]?.getD undef = v := by rw [← h]; simp [Act.eval]
theorem made_sees (w : World) (k : Nat) : Sees (w.alloc (.cells (madeCells #[.int .u8 0] k) 5)) (.slice (some ⟨w.heap.size, 0, none⟩) k k) (List.replicate k (.int .u8 0)) :=
  .inr ⟨⟨w.heap.size, 0, none⟩, k, by rw [List.length_replicate], by rw [List.length_replicate]; exact Nat.le_refl _, fun j u hj => by
    rw [add_at, Nat.zero_add, cl_of (al_at _ _)]
    rw [List.getElem?_replicate] at hj
    split at hj
    · rename_i hjk
      cases hj
      simp [madeCells, hjk, Nat.mod_one]
    · cases hj⟩
theorem at_c {w : World} {k : Nat} {cs : Array Value} {t : TypeId} {f : Nat × Nat} (h : w.heap[k]? = some (.cells cs t f)) (j : Nat) : w.cell? ⟨k, j, none⟩ = cs[j]? := by
  unfold World.cell?; rw [h]; rfl
theorem and15F : ∀ x : Fin 30, bits BinOp.and .i64 (x.val : Int) 15 = ((x.val % 16 : Nat) : Int) := by decide +kernel
/-- What each operation comes to. -/
def GR (n0 n room q : Nat) : Nat → Value → World → Prop
  | 0, v, w => v = .int .i64 (n : Int)
  | 1, v, w => MadeG n v w
  | 2, v, w => AggG (List.replicate n (.int .u8 0)) v w
  | 3, v, w => RawX n0 v w
  | 4, v, w => ByX v w
  | 5, v, w => AggG [.int .u8 120] v w
  | 6, v, w => v = .int .i64 (room : Int)
  | 7, v, w => v = .int .i64 (n : Int)
  | 8, v, w => v = .int .i64 ((n % 16 : Nat) : Int)
  | 9, v, w => v = .int .i64 (q : Int)
  | 10, v, w => MadeG q v w
  | 11, v, w => AggG (List.replicate q (.int .u8 0)) v w
  | 12, v, w => v = .agg #[.bool true, .slice none 0 0]
  | 13, v, w => v = .int .i64 (n : Int)
  | 14, v, w => MadeG n v w
  | 15, v, w => AggG (List.replicate n (.int .u8 0)) v w
  | 16, v, w => v = .agg #[.bool true, .slice none 0 0]
  | 17, v, w => v = .agg #[.bool true, .slice none 0 0]
  | 18, v, w => v = .agg #[.bool true, .slice none 0 0]
  | _, _, _ => True
theorem GR_keep {n0 n room q : Nat} (j : Nat) (v : Value) (w w' : World) (h : GR n0 n room q j v w) (hb : RK n0 w w') : GR n0 n room q j v w' := by
  match j, h with
  | 0, h => exact h
  | 1, h => exact (show MadeG n v w from h).rk hb
  | 2, h => exact (show AggG (List.replicate n (.int .u8 0)) v w from h).rk hb
  | 3, h => exact (show RawX n0 v w from h).rk hb
  | 4, h => exact (show ByX v w from h).rk hb
  | 5, h => exact (show AggG [.int .u8 120] v w from h).rk hb
  | 6, h => exact h
  | 7, h => exact h
  | 8, h => exact h
  | 9, h => exact h
  | 10, h => exact (show MadeG q v w from h).rk hb
  | 11, h => exact (show AggG (List.replicate q (.int .u8 0)) v w from h).rk hb
  | 12, h => exact h
  | 13, h => exact h
  | 14, h => exact (show MadeG n v w from h).rk hb
  | 15, h => exact (show AggG (List.replicate n (.int .u8 0)) v w from h).rk hb
  | 16, h => exact h
  | 17, h => exact h
  | 18, h => exact h
  | j + 19, h => exact trivial
/-- Eight deeds. -/
def Eight (v : Value) (w : World) : Prop := ∃ ds : List Deed, SeesDeeds w v ds ∧ ds.length = 8
noncomputable def code_n23 : Code := ((Try.f5.body.getD .skip |> regionOf 23).getD .skip)
set_option maxRecDepth 100000 in
set_option maxHeartbeats 8000000 in
theorem n23 (Q : Exit → Act → World → Prop) {w0 : World} {room n : Nat} (hr1 : 16 ≤ room) (hr2 : room < 34) (hn : n < 30) {u0 u1 u2 u3 u4 u7 u8 u9 u10 u11 u12 u13 u14 u15 u16 u17 u18 u19 u20 u21 u22 u23 u24 u25 u26 u27 u28 u29 u30 u31 u32 u33 u34 u35 u36 u37 u38 u39 u40 u41 u42 u43 u44 u45 u46 u47 u48 u49 u50 u51 u52 u53 u54 u55 u56 u57 u58 u59 u60 u61 u62 u63 u64 u65 u66 u67 u68 u69 u70 u71 u72 u73 u74 u75 u76 u77 u78 u79 u80 u81 u82 u83 u84 u85 u86 u87 u88 u89 u90 u91 u92 u93 u94 u95 u96 u97 u98 u99 u100 u101 u102 u103 u104 u105 u106 u107 u108 u109 u110 u111 u112 u113 u114 u115 u116 u117 u118 u119 u120 u121 u122 u123 u124 u125 u126 u127 u128 : Value} (hQ : ∀ (z7 z65 z66 z67 z68 z69 z70 z71 z72 z73 z74 z75 z76 z77 z78 z79 z80 z81 z82 z83 z84 : Value) (w5 : World), Eight z7 w5 → But [] w0 w5 → Q .normal { tmps := List.toArray (u0 :: u1 :: u2 :: u3 :: u4 :: .int .i64 (room : Int) :: .int .i64 (n : Int) :: z7 :: u8 :: u9 :: u10 :: u11 :: u12 :: u13 :: u14 :: u15 :: u16 :: u17 :: u18 :: u19 :: u20 :: u21 :: u22 :: u23 :: u24 :: u25 :: u26 :: u27 :: u28 :: u29 :: u30 :: u31 :: u32 :: u33 :: u34 :: u35 :: u36 :: u37 :: u38 :: u39 :: u40 :: u41 :: u42 :: u43 :: u44 :: u45 :: u46 :: u47 :: u48 :: u49 :: u50 :: u51 :: u52 :: u53 :: u54 :: u55 :: u56 :: u57 :: u58 :: u59 :: u60 :: u61 :: u62 :: u63 :: u64 :: z65 :: z66 :: z67 :: z68 :: z69 :: z70 :: z71 :: z72 :: z73 :: z74 :: z75 :: z76 :: z77 :: z78 :: z79 :: z80 :: z81 :: z82 :: z83 :: z84 :: u85 :: u86 :: u87 :: u88 :: u89 :: u90 :: u91 :: u92 :: u93 :: u94 :: u95 :: u96 :: u97 :: u98 :: u99 :: u100 :: u101 :: u102 :: u103 :: u104 :: u105 :: u106 :: u107 :: u108 :: u109 :: u110 :: u111 :: u112 :: u113 :: u114 :: u115 :: u116 :: u117 :: u118 :: u119 :: u120 :: u121 :: u122 :: u123 :: u124 :: u125 :: u126 :: u127 :: u128 :: []), defers := [] } w5) :
    Code.wp Try.prog code_n23 Q { tmps := List.toArray (u0 :: u1 :: u2 :: u3 :: u4 :: .int .i64 (room : Int) :: .int .i64 (n : Int) :: u7 :: u8 :: u9 :: u10 :: u11 :: u12 :: u13 :: u14 :: u15 :: u16 :: u17 :: u18 :: u19 :: u20 :: u21 :: u22 :: u23 :: u24 :: u25 :: u26 :: u27 :: u28 :: u29 :: u30 :: u31 :: u32 :: u33 :: u34 :: u35 :: u36 :: u37 :: u38 :: u39 :: u40 :: u41 :: u42 :: u43 :: u44 :: u45 :: u46 :: u47 :: u48 :: u49 :: u50 :: u51 :: u52 :: u53 :: u54 :: u55 :: u56 :: u57 :: u58 :: u59 :: u60 :: u61 :: u62 :: u63 :: u64 :: u65 :: u66 :: u67 :: u68 :: u69 :: u70 :: u71 :: u72 :: u73 :: u74 :: u75 :: u76 :: u77 :: u78 :: u79 :: u80 :: u81 :: u82 :: u83 :: u84 :: u85 :: u86 :: u87 :: u88 :: u89 :: u90 :: u91 :: u92 :: u93 :: u94 :: u95 :: u96 :: u97 :: u98 :: u99 :: u100 :: u101 :: u102 :: u103 :: u104 :: u105 :: u106 :: u107 :: u108 :: u109 :: u110 :: u111 :: u112 :: u113 :: u114 :: u115 :: u116 :: u117 :: u118 :: u119 :: u120 :: u121 :: u122 :: u123 :: u124 :: u125 :: u126 :: u127 :: u128 :: []), defers := [] } w0 := by
  obtain ⟨i0, hi, hz0, hz1, hz2⟩ := info_parts (show (Try.prog.info? 5).map (fun i => (i.zero, i.size, i.bytes)) = some (some (.int .u8 0), 1, 1) by kernel_rfl)
  have HMK : Hid (∀ (w : World) (k : Nat), k ≤ 100 → (Instr.makeSlice 36 (.int .i64 (k : Int)) (.int .i64 (k : Int))).run Try.prog w = .ok (.slice (some ⟨w.heap.size, 0, none⟩) k k) (w.alloc (.cells (madeCells #[.int .u8 0] k) 5))) := Lib.hid fun w k hk => by
    have h := run_make (P := Try.prog) w 36 5 i0 (.int .u8 0) Try.underlying36 hi hz0 .i64 .i64 (k : Int) (k : Int) (by omega) (by omega) (by rw [hz2]; omega) (by omega)
    rw [h, hz1]
    simp only [Int.toNat_natCast, Nat.mul_one]
    rfl
  have hand := and15F ⟨n, hn⟩
  have HAND := Lib.hid hand
  obtain ⟨q, hq⟩ : ∃ q : Nat, q + n % 16 = room := ⟨room - n % 16, by omega⟩
  have hqi : (room : Int) - ((n % 16 : Nat) : Int) = (q : Int) := by omega
  have HQI := Lib.hid hqi
  have hq2 : q ≤ 100 := by omega
  have HQ := Lib.hid hQ
  obtain ⟨n0, hn0⟩ : ∃ n0, n0 = w0.heap.size := ⟨_, rfl⟩
  have HN0 := Lib.hid hn0
  clear hQ hi hz0 hz1 hz2 hand hqi hn0 hq
  conv => arg 2; whnf
  refine wp_region_flow 19 (by decide) (by kernel_rfl) (RK n0) (fun _ _ _ h1 h2 => h1.trans h2) (RK.draw _ _) (GR n0 n room q) [[], [(0, 65)], [(1, 66)], [], [(3, 68)], [(4, 69)], [], [], [(7, 72)], [(6, 71), (8, 73)], [(9, 74)], [(10, 75)], [], [], [(13, 78)], [(14, 79)], [], [], []] [[(6, .int .i64 (n : Int))], [], [], [], [], [], [(5, .int .i64 (room : Int))], [(6, .int .i64 (n : Int))], [], [], [], [], [], [(6, .int .i64 (n : Int))], [], [], [], [], []] (by kernel_rfl) (by kernel_rfl) (by kernel_rfl) (by kernel_rfl) ?_ (fun j v w w' _ h hb => GR_keep j v w w' h hb) ?_ ?_
  · exact ⟨⟨rfl, trivial⟩, trivial, trivial, trivial, trivial, trivial, ⟨rfl, trivial⟩, ⟨rfl, trivial⟩, trivial, trivial, trivial, trivial, trivial, ⟨rfl, trivial⟩, trivial, trivial, trivial, trivial, trivial, trivial⟩
  · simp only [List.take_succ_cons, List.take_zero]
    -- 65
    refine ⟨fun a9 w9 hR hk hf => ?_, ?_⟩
    · simp only [KnowF, FreeF, and_true] at hk hf
      have e6 : a9.tmps[6]?.getD undef = .int .i64 (n : Int) := evF hf
      exact flow_run (v := .int .i64 (n : Int)) (by go_simp) (RK.refl _ _) rfl
    -- 66
    refine ⟨fun a9 w9 hR hk hf => ?_, ?_⟩
    · simp only [KnowF, FreeF, and_true] at hk hf
      have e65 : a9.tmps[65]?.getD undef = .int .i64 (n : Int) := evF (show a9.eval (.tmp 65) = .int .i64 (n : Int) from hk)
      have hmk := HMK.out w9 n (by omega)
      exact flow_run (v := .slice (some ⟨w9.heap.size, 0, none⟩) n n) (w' := w9.alloc (.cells (madeCells #[.int .u8 0] n) 5)) (by go_simp) (RK.of_but ((But.refl [] w9).alloc _)) (show MadeG n _ _ from ⟨_, rfl, made_sees w9 n⟩)
    -- 67
    refine ⟨fun a9 w9 hR hk hf => ?_, ?_⟩
    · simp only [KnowF, FreeF, and_true] at hk hf
      obtain ⟨g, ex, hs⟩ := (show MadeG n (a9.eval (.tmp 66)) w9 from hk)
      have e66 := evF ex
      rw [ex] at hs
      have HS := Lib.hid hs
      clear ex hs hk
      exact flow_run (v := .agg #[.bool false, .slice (some ⟨g, 0, none⟩) n n]) (by go_simp) (RK.refl _ _) (show AggG _ _ _ from ⟨_, _, _, rfl, HS.out⟩)
    -- 68
    refine ⟨fun a9 w9 hR hk hf => ?_, ?_⟩
    · simp only [KnowF, FreeF, and_true] at hk hf
      have hz : n0 ≤ w9.heap.size := by have := hR.size; rw [HN0.out]; exact this
      exact flow_run (v := .slice (some ⟨w9.heap.size, 0, none⟩) 1 1) (w' := w9.alloc (.cells #[.int .u8 120] 5)) (by go_simp) (RK.of_but ((But.refl [] w9).alloc _)) (show RawX n0 _ _ from ⟨_, _, rfl, hz, al_at _ _⟩)
    -- 69
    refine ⟨fun a9 w9 hR hk hf => ?_, ?_⟩
    · simp only [KnowF, FreeF, and_true] at hk hf
      obtain ⟨g, ff, ex, hg, hc⟩ := (show RawX n0 (a9.eval (.tmp 68)) w9 from hk)
      have e68 := evF ex
      have hcv := run_convert_mark w9 36 5 _ ff g 1 1 hc Try.underlying36 Try.underlying5
      have HK := Lib.hid (rk_freeze (n0 := n0) hc hg (#[Value.int .u8 120] : Array Value).size)
      have HS := Lib.hid ((show Sees w9 (.slice (some ⟨g, 0, none⟩) 1 1) [.int .u8 120] from .inr ⟨⟨g, 0, none⟩, 1, rfl, Nat.le_refl _, fun j u hj => by rw [add_at, Nat.zero_add, at_c hc]; simpa using hj⟩).rk HK.out)
      clear hc ex hk
      exact flow_run (v := .slice (some ⟨g, 0, none⟩) 1 1) (by go_simp) HK.out (show ByX _ _ from ⟨g, rfl, HS.out⟩)
    -- 70
    refine ⟨fun a9 w9 hR hk hf => ?_, ?_⟩
    · simp only [KnowF, FreeF, and_true] at hk hf
      obtain ⟨g, ex, hs⟩ := (show ByX (a9.eval (.tmp 69)) w9 from hk)
      have e69 := evF ex
      rw [ex] at hs
      have HS := Lib.hid hs
      clear ex hs hk
      exact flow_run (v := .agg #[.bool false, .slice (some ⟨g, 0, none⟩) 1 1]) (by go_simp) (RK.refl _ _) (show AggG _ _ _ from ⟨_, _, _, rfl, HS.out⟩)
    -- 71
    refine ⟨fun a9 w9 hR hk hf => ?_, ?_⟩
    · simp only [KnowF, FreeF, and_true] at hk hf
      have e5 : a9.tmps[5]?.getD undef = .int .i64 (room : Int) := evF hf
      exact flow_run (v := .int .i64 (room : Int)) (by go_simp) (RK.refl _ _) rfl
    -- 72
    refine ⟨fun a9 w9 hR hk hf => ?_, ?_⟩
    · simp only [KnowF, FreeF, and_true] at hk hf
      have e6 : a9.tmps[6]?.getD undef = .int .i64 (n : Int) := evF hf
      exact flow_run (v := .int .i64 (n : Int)) (by go_simp) (RK.refl _ _) rfl
    -- 73
    refine ⟨fun a9 w9 hR hk hf => ?_, ?_⟩
    · simp only [KnowF, FreeF, and_true] at hk hf
      have e72 : a9.tmps[72]?.getD undef = .int .i64 (n : Int) := evF (show a9.eval (.tmp 72) = .int .i64 (n : Int) from hk)
      have ha := HAND.out
      exact flow_run (v := .int .i64 ((n % 16 : Nat) : Int)) (by go_simp) (RK.refl _ _) rfl
    -- 74
    refine ⟨fun a9 w9 hR hk hf => ?_, ?_⟩
    · simp only [KnowF, FreeF, and_true] at hk hf
      have e71 : a9.tmps[71]?.getD undef = .int .i64 (room : Int) := evF (show a9.eval (.tmp 71) = .int .i64 (room : Int) from hk.1)
      have e73 : a9.tmps[73]?.getD undef = .int .i64 ((n % 16 : Nat) : Int) := evF (show a9.eval (.tmp 73) = .int .i64 ((n % 16 : Nat) : Int) from hk.2)
      have hqi := HQI.out
      have hqw : IntKind.i64.wrap ((room : Int) - (n : Int) % 16) = (q : Int) := by rw [IntKind.wrap_i64]; omega
      exact flow_run (v := .int .i64 (q : Int)) (by go_simp) (RK.refl _ _) rfl
    -- 75
    refine ⟨fun a9 w9 hR hk hf => ?_, ?_⟩
    · simp only [KnowF, FreeF, and_true] at hk hf
      have e74 : a9.tmps[74]?.getD undef = .int .i64 (q : Int) := evF (show a9.eval (.tmp 74) = .int .i64 (q : Int) from hk)
      have hmk := HMK.out w9 q (by omega)
      exact flow_run (v := .slice (some ⟨w9.heap.size, 0, none⟩) q q) (w' := w9.alloc (.cells (madeCells #[.int .u8 0] q) 5)) (by go_simp) (RK.of_but ((But.refl [] w9).alloc _)) (show MadeG q _ _ from ⟨_, rfl, made_sees w9 q⟩)
    -- 76
    refine ⟨fun a9 w9 hR hk hf => ?_, ?_⟩
    · simp only [KnowF, FreeF, and_true] at hk hf
      obtain ⟨g, ex, hs⟩ := (show MadeG q (a9.eval (.tmp 75)) w9 from hk)
      have e75 := evF ex
      rw [ex] at hs
      have HS := Lib.hid hs
      clear ex hs hk
      exact flow_run (v := .agg #[.bool false, .slice (some ⟨g, 0, none⟩) q q]) (by go_simp) (RK.refl _ _) (show AggG _ _ _ from ⟨_, _, _, rfl, HS.out⟩)
    -- 77
    refine ⟨fun a9 w9 hR hk hf => ?_, ?_⟩
    · simp only [KnowF, FreeF, and_true] at hk hf
      exact flow_run (v := .agg #[.bool true, .slice none 0 0]) (by go_simp) (RK.refl _ _) rfl
    -- 78
    refine ⟨fun a9 w9 hR hk hf => ?_, ?_⟩
    · simp only [KnowF, FreeF, and_true] at hk hf
      have e6 : a9.tmps[6]?.getD undef = .int .i64 (n : Int) := evF hf
      exact flow_run (v := .int .i64 (n : Int)) (by go_simp) (RK.refl _ _) rfl
    -- 79
    refine ⟨fun a9 w9 hR hk hf => ?_, ?_⟩
    · simp only [KnowF, FreeF, and_true] at hk hf
      have e78 : a9.tmps[78]?.getD undef = .int .i64 (n : Int) := evF (show a9.eval (.tmp 78) = .int .i64 (n : Int) from hk)
      have hmk := HMK.out w9 n (by omega)
      exact flow_run (v := .slice (some ⟨w9.heap.size, 0, none⟩) n n) (w' := w9.alloc (.cells (madeCells #[.int .u8 0] n) 5)) (by go_simp) (RK.of_but ((But.refl [] w9).alloc _)) (show MadeG n _ _ from ⟨_, rfl, made_sees w9 n⟩)
    -- 80
    refine ⟨fun a9 w9 hR hk hf => ?_, ?_⟩
    · simp only [KnowF, FreeF, and_true] at hk hf
      obtain ⟨g, ex, hs⟩ := (show MadeG n (a9.eval (.tmp 79)) w9 from hk)
      have e79 := evF ex
      rw [ex] at hs
      have HS := Lib.hid hs
      clear ex hs hk
      exact flow_run (v := .agg #[.bool false, .slice (some ⟨g, 0, none⟩) n n]) (by go_simp) (RK.refl _ _) (show AggG _ _ _ from ⟨_, _, _, rfl, HS.out⟩)
    -- 81
    refine ⟨fun a9 w9 hR hk hf => ?_, ?_⟩
    · simp only [KnowF, FreeF, and_true] at hk hf
      exact flow_run (v := .agg #[.bool true, .slice none 0 0]) (by go_simp) (RK.refl _ _) rfl
    -- 82
    refine ⟨fun a9 w9 hR hk hf => ?_, ?_⟩
    · simp only [KnowF, FreeF, and_true] at hk hf
      exact flow_run (v := .agg #[.bool true, .slice none 0 0]) (by go_simp) (RK.refl _ _) rfl
    -- 83
    refine ⟨fun a9 w9 hR hk hf => ?_, ?_⟩
    · simp only [KnowF, FreeF, and_true] at hk hf
      exact flow_run (v := .agg #[.bool true, .slice none 0 0]) (by go_simp) (RK.refl _ _) rfl
    exact trivial
  · intro f w hR hG
    obtain ⟨a0, k0, c0, e67, s67⟩ := (show AggG (List.replicate n (.int .u8 0)) (f 67) w from hG 2 _ 67 (by decide) rfl rfl)
    obtain ⟨a1, k1, c1, e70, s70⟩ := (show AggG [.int .u8 120] (f 70) w from hG 5 _ 70 (by decide) rfl rfl)
    obtain ⟨a2, k2, c2, e76, s76⟩ := (show AggG (List.replicate q (.int .u8 0)) (f 76) w from hG 11 _ 76 (by decide) rfl rfl)
    obtain ⟨a4, k4, c4, e80, s80⟩ := (show AggG (List.replicate n (.int .u8 0)) (f 80) w from hG 15 _ 80 (by decide) rfl rfl)
    have e77 : f 77 = .agg #[.bool true, .slice none 0 0] := hG 12 _ 77 (by decide) rfl rfl
    have e81 : f 81 = .agg #[.bool true, .slice none 0 0] := hG 16 _ 81 (by decide) rfl rfl
    have e82 : f 82 = .agg #[.bool true, .slice none 0 0] := hG 17 _ 82 (by decide) rfl rfl
    have e83 : f 83 = .agg #[.bool true, .slice none 0 0] := hG 18 _ 83 (by decide) rfl rfl
    have hbw : But [] w0 w := by rw [HN0.out] at hR; exact hR.but
    have hb2 : But [] w (w.alloc (.cells #[.bool false, .slice a0 k0 c0, .bool false, .slice a1 k1 c1, .bool false, .slice a2 k2 c2, .bool true, .slice none 0 0, .bool false, .slice a4 k4 c4, .bool true, .slice none 0 0, .bool true, .slice none 0 0, .bool true, .slice none 0 0] 39)) := (But.refl [] w).alloc _
    have HE : Hid (Eight (.slice (some ⟨w.heap.size, 0, none⟩) 8 8) (w.alloc (.cells #[.bool false, .slice a0 k0 c0, .bool false, .slice a1 k1 c1, .bool false, .slice a2 k2 c2, .bool true, .slice none 0 0, .bool false, .slice a4 k4 c4, .bool true, .slice none 0 0, .bool true, .slice none 0 0, .bool true, .slice none 0 0] 39))) := by
      refine Lib.hid ⟨[⟨false, .slice a0 k0 c0, (List.replicate n (.int .u8 0))⟩, ⟨false, .slice a1 k1 c1, [.int .u8 120]⟩, ⟨false, .slice a2 k2 c2, (List.replicate q (.int .u8 0))⟩, ⟨true, .slice none 0 0, []⟩, ⟨false, .slice a4 k4 c4, (List.replicate n (.int .u8 0))⟩, ⟨true, .slice none 0 0, []⟩, ⟨true, .slice none 0 0, []⟩, ⟨true, .slice none 0 0, []⟩], ⟨some ⟨w.heap.size, 0, none⟩, 8, rfl, fun i d hd => ?_⟩, rfl⟩
      have hrep : ∀ k : Nat, IsBytes (List.replicate k (.int .u8 0)) := fun k u hu => by obtain ⟨_, rfl⟩ := List.mem_replicate.1 hu; exact ⟨_, rfl⟩
      match i, hd with
      | 0, hd => simp at hd; subst hd; exact ⟨w.heap.size, 0, rfl, cl_of (al_at _ _) _, cl_of (al_at _ _) _, s67.but hb2 (by simp), hrep _, by simp; try omega⟩
      | 1, hd => simp at hd; subst hd; exact ⟨w.heap.size, 0, rfl, cl_of (al_at _ _) _, cl_of (al_at _ _) _, s70.but hb2 (by simp), (by intro u hu; simp at hu; subst hu; exact ⟨_, rfl⟩), by simp; try omega⟩
      | 2, hd => simp at hd; subst hd; exact ⟨w.heap.size, 0, rfl, cl_of (al_at _ _) _, cl_of (al_at _ _) _, s76.but hb2 (by simp), hrep _, by simp; try omega⟩
      | 3, hd => simp at hd; subst hd; exact ⟨w.heap.size, 0, rfl, cl_of (al_at _ _) _, cl_of (al_at _ _) _, .inl ⟨rfl, rfl⟩, (by intro u hu; cases hu), by simp⟩
      | 4, hd => simp at hd; subst hd; exact ⟨w.heap.size, 0, rfl, cl_of (al_at _ _) _, cl_of (al_at _ _) _, s80.but hb2 (by simp), hrep _, by simp; try omega⟩
      | 5, hd => simp at hd; subst hd; exact ⟨w.heap.size, 0, rfl, cl_of (al_at _ _) _, cl_of (al_at _ _) _, .inl ⟨rfl, rfl⟩, (by intro u hu; cases hu), by simp⟩
      | 6, hd => simp at hd; subst hd; exact ⟨w.heap.size, 0, rfl, cl_of (al_at _ _) _, cl_of (al_at _ _) _, .inl ⟨rfl, rfl⟩, (by intro u hu; cases hu), by simp⟩
      | 7, hd => simp at hd; subst hd; exact ⟨w.heap.size, 0, rfl, cl_of (al_at _ _) _, cl_of (al_at _ _) _, .inl ⟨rfl, rfl⟩, (by intro u hu; cases hu), by simp⟩
      | j + 8, hd => simp at hd
    have HBW := Lib.hid (hbw.trans hb2 (by simp))
    clear hG hR hbw hb2 s67 s70 s76 s80
    simp only [List.drop_succ_cons, List.drop_zero]
    show wpList _ _ _ _ { tmps := List.toArray (u0 :: u1 :: u2 :: u3 :: u4 :: .int .i64 (room : Int) :: .int .i64 (n : Int) :: u7 :: u8 :: u9 :: u10 :: u11 :: u12 :: u13 :: u14 :: u15 :: u16 :: u17 :: u18 :: u19 :: u20 :: u21 :: u22 :: u23 :: u24 :: u25 :: u26 :: u27 :: u28 :: u29 :: u30 :: u31 :: u32 :: u33 :: u34 :: u35 :: u36 :: u37 :: u38 :: u39 :: u40 :: u41 :: u42 :: u43 :: u44 :: u45 :: u46 :: u47 :: u48 :: u49 :: u50 :: u51 :: u52 :: u53 :: u54 :: u55 :: u56 :: u57 :: u58 :: u59 :: u60 :: u61 :: u62 :: u63 :: u64 :: f 65 :: f 66 :: f 67 :: f 68 :: f 69 :: f 70 :: f 71 :: f 72 :: f 73 :: f 74 :: f 75 :: f 76 :: f 77 :: f 78 :: f 79 :: f 80 :: f 81 :: f 82 :: f 83 :: u84 :: u85 :: u86 :: u87 :: u88 :: u89 :: u90 :: u91 :: u92 :: u93 :: u94 :: u95 :: u96 :: u97 :: u98 :: u99 :: u100 :: u101 :: u102 :: u103 :: u104 :: u105 :: u106 :: u107 :: u108 :: u109 :: u110 :: u111 :: u112 :: u113 :: u114 :: u115 :: u116 :: u117 :: u118 :: u119 :: u120 :: u121 :: u122 :: u123 :: u124 :: u125 :: u126 :: u127 :: u128 :: []), defers := [] } w
    go_wp2_with fail
    exact HQ.out _ _ _ _ _ _ _ _ _ _ _ _ _ _ _ _ _ _ _ _ _ _ HE.out HBW.out
end Go.Proofs.Ytlajffbjkgedhaa.M
