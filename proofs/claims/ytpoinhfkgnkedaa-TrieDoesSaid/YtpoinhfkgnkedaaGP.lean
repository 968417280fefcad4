/-
  Merged: TDo, TLight.
-/
import Derived.Test.YtpoinhfkgnkedaaGM
import Derived.Test.YtpoinhfkgnkedaaTrAny
import Derived.Lib.SmallJoins
import Derived.BigQuiet
import Derived.Test.YtpoinhfkgnkedaaSame
namespace Go.Proofs.Ytpoinhfkgnkedaa.M
open Go.RowKit
set_option linter.unusedVariables false
set_option linter.unusedSectionVars false
set_option linter.unusedSimpArgs false
structure MSpec where
  (k key val ent : Int)
def MSpec.v (s : MSpec) : Value := .agg #[.int .u8 s.k, .int .i64 s.key, .int .i64 s.val, .int .i64 s.ent]
structure DeedA where
  what : Int
  key : Value
  b : Value
  ks : List Int
  bs : List Int
  flags : Int
  place : Int
  off : Int
def DeedA.cells (d : DeedA) : List Value := [.int .i64 d.what, d.key, d.b, .int .u64 d.flags, .int .i64 d.place, .int .i64 d.off]
structure DeedOk (w : World) (d : DeedA) : Prop where
  key : Sees w d.key (u8s d.ks)
  keyb : ByteL d.ks
  keyl : d.ks.length ≤ 140737488351232
  b : Sees w d.b (u8s d.bs)
  bb : ByteL d.bs
  bl : d.bs.length ≤ 140737488351232
  what : (Lit.int .i64 d.what).wf = true
  flags : (Lit.int .u64 d.flags).wf = true
  place : (Lit.int .i64 d.place).wf = true
  off : (Lit.int .i64 d.off).wf = true
theorem DeedOk.new {w w' : World} {d : DeedA} (h : DeedOk w d) (hb : But [] w w') : DeedOk w' d :=
  ⟨h.key.but hb (by simp), h.keyb, h.keyl, h.b.but hb (by simp), h.bb, h.bl, h.what, h.flags, h.place, h.off⟩
def DeedAt (w : World) (a : Option Addr) (i : Nat) (d : DeedA) : Prop :=
  ∃ b o, a = some ⟨b, o, none⟩ ∧ (∀ (j : Nat) (v : Value), d.cells[j]? = some v → w.cell? ⟨b, o + i * 6 + j, none⟩ = some v) ∧ DeedOk w d
def SeesDeeds (w : World) (v : Value) (l : List DeedA) : Prop := ∃ a c, v = .slice a l.length c ∧ ∀ (i : Nat) (d : DeedA), l[i]? = some d → DeedAt w a i d
theorem DeedAt.keep {w w' : World} {a : Option Addr} {i : Nat} {d : DeedA} (h : DeedAt w a i d) (hb : But [] w w') : DeedAt w' a i d := by
  obtain ⟨b, o, h1, h2, h3⟩ := h
  exact ⟨b, o, h1, fun j v hj => cell_but hb (h2 j v hj) (by simp), h3.new hb⟩
theorem array6 {α : Type} {cs : Array α} (h : cs.size = 6) : ∃ a b c d e f, cs = #[a, b, c, d, e, f] := by
  obtain ⟨l⟩ := cs
  match l, h with
  | [a, b, c, d, e, f], _ => exact ⟨a, b, c, d, e, f, rfl⟩
section
variable {H : Type} {enc : TypeId × Value → H} {P : Program} {w : World}
theorem bytes_cellB {t e : TypeId} (ht : P.underlying t = some (.slice e)) (he : P.underlying e = some (.int .u8)) (hc : P.cellsOf e = 1) (h1 : P.bytesOf e = 1) {n : Nat} {v : Value} {y : DataW H × List MemPlace}
    (h : DataW.trod enc P w 0 (fun _ => true) true n t [v] = some y) (hsz : ∀ n ∈ y.1.weights P t, n ≤ reachBytes) :
    ∃ xs : List Int, Sees w v (u8s xs) ∧ ByteL xs ∧ xs.length ≤ 140737488351232 := by
  have hv : ∃ a l c, v = .slice a l c := by
    rcases DataW.trod_slice ht h with ⟨h0, _⟩ | ⟨a, len, cap, elems, rest, n, _, h0, _⟩
    · simp only [List.cons.injEq, and_true] at h0; exact ⟨_, _, _, h0⟩
    · simp only [List.cons.injEq, and_true] at h0; exact ⟨_, _, _, h0⟩
  obtain ⟨a, l, c, rfl⟩ := hv
  rcases ChangeShapes.open_ints ht he hc h with ⟨hcs, hx⟩ | ⟨a, len', cap', zs, hcs, _, hl, hm, hz, hx, hcell, hwz⟩
  · simp at hcs
    obtain ⟨rfl, rfl, rfl⟩ := hcs
    exact ⟨[], .inl ⟨rfl, rfl⟩, (fun u hu => by cases hu), Nat.zero_le _⟩
  · simp at hcs
    obtain ⟨rfl, rfl, rfl⟩ := hcs
    subst hx
    simp only [if_true] at hz
    have hw := hsz (c * P.bytesOf e) (by
      simp only [DataW.weights, ht, List.mem_cons]
      left
      simp only [ChangeShapes.lits, List.length_map, List.length_take, List.length_drop, hz]
      congr 1
      omega)
    rw [h1, Nat.mul_one] at hw
    have hr : reachBytes = 140737488351232 := rfl
    refine ⟨zs.take l, .inr ⟨a, c, ?_, ?_, fun j u hu => ?_⟩, fun z hz => ?_, ?_⟩
    · simp [u8s]; omega
    · simp [u8s]; omega
    · rw [u8s, List.getElem?_map] at hu
      obtain ⟨z, hz2, rfl⟩ := Option.map_eq_some_iff.1 hu
      have hj : j < zs.length := by
        have := (List.getElem?_eq_some_iff.1 hz2).1
        simp at this
        omega
      rw [hcell j hj]
      rw [List.getElem?_take] at hz2
      split at hz2
      · simp [List.getD, hz2]
      · cases hz2
    · have := hwz z (List.mem_of_mem_take hz)
      simp only [Lit.wf, Bool.and_eq_true, decide_eq_true_eq] at this
      exact ⟨this.1, Int.le_trans this.2 (by decide)⟩
    · simp; omega
end
section
variable {H : Type} {enc : TypeId × Value → H} {w : World}
set_option maxRecDepth 100000 in
theorem deeds_in {base : Nat} {v : Value} {d : DataW H} {ps : List MemPlace} (hval : Value.okWide Try.prog w .any base 25 v) (h : DataW.Trod enc Try.prog w 0 (fun _ => true) true 25 v d ps) (hsz : ∀ n ∈ d.weights Try.prog 25, n ≤ reachBytes) :
    ∃ l, SeesDeeds w v l ∧ l.length ≤ 3518437208780 := by
  have hC : Try.prog.cellsOf 36 = 6 := by kernel_rfl
  have hB : Try.prog.bytesOf 36 = 80 := by kernel_rfl
  rcases recs_in Try.underlying25 Try.underlying36 (by rw [hC]; decide) hval h hsz with rfl | ⟨a, len, cap, rfl, hl, hb, hi⟩
  · exact ⟨[], ⟨none, 0, rfl, fun i d h => by cases h⟩, by simp⟩
  · rw [hB] at hb
    have each : ∀ i, i < len → ∃ d, DeedAt w (some a) i d := fun i hil => by
      obtain ⟨b, o, cs, rfl, hcl, hat, n, hr⟩ := hi i hil
      rw [hC] at hcl hat
      match cs, hcl with
      | [c0, c1, c2, c3, c4, c5], _ =>
        obtain ⟨y0, h0, _⟩ := hr 0 _ rfl
        obtain ⟨y1, h1, w1⟩ := hr 1 _ rfl
        obtain ⟨y2, h2, w2⟩ := hr 2 _ rfl
        obtain ⟨y3, h3, _⟩ := hr 3 _ rfl
        obtain ⟨y4, h4, _⟩ := hr 4 _ rfl
        obtain ⟨y5, h5, _⟩ := hr 5 _ rfl
        have e0 : Try.prog.cellsOf 3 = 1 := by kernel_rfl
        have e1 : Try.prog.cellsOf 26 = 1 := by kernel_rfl
        have e2 : Try.prog.cellsOf 34 = 1 := by kernel_rfl
        replace h0 : DataW.trod enc Try.prog w 0 (fun _ => true) true n 3 (([c0, c1, c2, c3, c4, c5].drop 0).take (Try.prog.cellsOf 3)) = some y0 := h0
        rw [e0] at h0
        replace h1 : DataW.trod enc Try.prog w 0 (fun _ => true) true n 26 (([c0, c1, c2, c3, c4, c5].drop 1).take (Try.prog.cellsOf 26)) = some y1 := h1
        rw [e1] at h1
        replace h2 : DataW.trod enc Try.prog w 0 (fun _ => true) true n 26 (([c0, c1, c2, c3, c4, c5].drop 2).take (Try.prog.cellsOf 26)) = some y2 := h2
        rw [e1] at h2
        replace h3 : DataW.trod enc Try.prog w 0 (fun _ => true) true n 34 (([c0, c1, c2, c3, c4, c5].drop 3).take (Try.prog.cellsOf 34)) = some y3 := h3
        rw [e2] at h3
        replace h4 : DataW.trod enc Try.prog w 0 (fun _ => true) true n 3 (([c0, c1, c2, c3, c4, c5].drop 4).take (Try.prog.cellsOf 3)) = some y4 := h4
        rw [e0] at h4
        replace h5 : DataW.trod enc Try.prog w 0 (fun _ => true) true n 3 (([c0, c1, c2, c3, c4, c5].drop 5).take (Try.prog.cellsOf 3)) = some y5 := h5
        rw [e0] at h5
        obtain ⟨t, rfl, wt⟩ := int_cell Try.underlying3 h0
        obtain ⟨xs, hs, hby, hln⟩ := bytes_cellB Try.underlying26 Try.underlying5 (by kernel_rfl) (by kernel_rfl) h1 w1
        obtain ⟨bs, gs, gby, gln⟩ := bytes_cellB Try.underlying26 Try.underlying5 (by kernel_rfl) (by kernel_rfl) h2 w2
        obtain ⟨fl, rfl, wf⟩ := int_cell Try.underlying34 h3
        obtain ⟨pl, rfl, wp⟩ := int_cell Try.underlying3 h4
        obtain ⟨of, rfl, wo⟩ := int_cell Try.underlying3 h5
        refine ⟨⟨t, c1, c2, xs, bs, fl, pl, of⟩, b, o, rfl, fun j v hj => ?_, ⟨hs, hby, hln, gs, gby, gln, wt, wf, wp, wo⟩⟩
        have hjl : j < 6 := (List.getElem?_eq_some_iff.1 hj).1
        rw [Nat.add_assoc, hat j hjl]
        exact hj
    have pick : ∀ i, ∃ d : DeedA, i < len → DeedAt w (some a) i d := fun i => by
      by_cases hil : i < len
      · obtain ⟨d, hd⟩ := each i hil
        exact ⟨d, fun _ => hd⟩
      · exact ⟨⟨0, .slice none 0 0, .slice none 0 0, [], [], 0, 0, 0⟩, fun h => absurd h hil⟩
    obtain ⟨D, hD⟩ := Classical.axiomOfChoice pick
    refine ⟨(List.range len).map D, ⟨some a, cap, by simp, fun i d hd => ?_⟩, by simp; omega⟩
    rw [List.getElem?_map] at hd
    obtain ⟨z, hz, rfl⟩ := Option.map_eq_some_iff.1 hd
    obtain ⟨hj, rfl⟩ := List.getElem?_eq_some_iff.1 hz
    simp only [List.length_range] at hj
    simp only [List.getElem_range]
    exact hD i hj
set_option maxRecDepth 100000 in
theorem deed_in {base : Nat} {v : Value} {d : DataW H} {ps : List MemPlace} (hval : Value.okWide Try.prog w .any base 36 v) (h : DataW.Trod enc Try.prog w 0 (fun _ => true) true 36 v d ps) (hsz : ∀ n ∈ d.weights Try.prog 36, n ≤ reachBytes) :
    ∃ x : DeedA, v = .agg x.cells.toArray ∧ DeedOk w x := by
  have hC : Try.prog.cellsOf 36 = 6 := by kernel_rfl
  obtain ⟨cs, rfl, hcs⟩ := WideShapes.okWide_struct Try.underlying36 hval
  obtain ⟨c0, c1, c2, c3, c4, c5, rfl⟩ := array6 (hcs.trans hC)
  obtain ⟨fuel, hf⟩ := h
  obtain ⟨n, hr⟩ := reads_of Try.underlying36 hf hsz
  have hcc : (Value.agg #[c0, c1, c2, c3, c4, c5]).cells.toList = [c0, c1, c2, c3, c4, c5] := rfl
  obtain ⟨y0, h0, _⟩ := hr 0 _ rfl
  obtain ⟨y1, h1, w1⟩ := hr 1 _ rfl
  obtain ⟨y2, h2, w2⟩ := hr 2 _ rfl
  obtain ⟨y3, h3, _⟩ := hr 3 _ rfl
  obtain ⟨y4, h4, _⟩ := hr 4 _ rfl
  obtain ⟨y5, h5, _⟩ := hr 5 _ rfl
  have e0 : Try.prog.cellsOf 3 = 1 := by kernel_rfl
  have e1 : Try.prog.cellsOf 26 = 1 := by kernel_rfl
  have e2 : Try.prog.cellsOf 34 = 1 := by kernel_rfl
  replace h0 : DataW.trod enc Try.prog w 0 (fun _ => true) true n 3 (([c0, c1, c2, c3, c4, c5].drop 0).take (Try.prog.cellsOf 3)) = some y0 := h0
  rw [e0] at h0
  replace h1 : DataW.trod enc Try.prog w 0 (fun _ => true) true n 26 (([c0, c1, c2, c3, c4, c5].drop 1).take (Try.prog.cellsOf 26)) = some y1 := h1
  rw [e1] at h1
  replace h2 : DataW.trod enc Try.prog w 0 (fun _ => true) true n 26 (([c0, c1, c2, c3, c4, c5].drop 2).take (Try.prog.cellsOf 26)) = some y2 := h2
  rw [e1] at h2
  replace h3 : DataW.trod enc Try.prog w 0 (fun _ => true) true n 34 (([c0, c1, c2, c3, c4, c5].drop 3).take (Try.prog.cellsOf 34)) = some y3 := h3
  rw [e2] at h3
  replace h4 : DataW.trod enc Try.prog w 0 (fun _ => true) true n 3 (([c0, c1, c2, c3, c4, c5].drop 4).take (Try.prog.cellsOf 3)) = some y4 := h4
  rw [e0] at h4
  replace h5 : DataW.trod enc Try.prog w 0 (fun _ => true) true n 3 (([c0, c1, c2, c3, c4, c5].drop 5).take (Try.prog.cellsOf 3)) = some y5 := h5
  rw [e0] at h5
  obtain ⟨t, rfl, wt⟩ := int_cell Try.underlying3 h0
  obtain ⟨xs, hs, hby, hln⟩ := bytes_cellB Try.underlying26 Try.underlying5 (by kernel_rfl) (by kernel_rfl) h1 w1
  obtain ⟨bs, gs, gby, gln⟩ := bytes_cellB Try.underlying26 Try.underlying5 (by kernel_rfl) (by kernel_rfl) h2 w2
  obtain ⟨fl, rfl, wf⟩ := int_cell Try.underlying34 h3
  obtain ⟨pl, rfl, wp⟩ := int_cell Try.underlying3 h4
  obtain ⟨of, rfl, wo⟩ := int_cell Try.underlying3 h5
  exact ⟨⟨t, c1, c2, xs, bs, fl, pl, of⟩, rfl, ⟨hs, hby, hln, gs, gby, gln, wt, wf, wp, wo⟩⟩
set_option maxRecDepth 100000 in
theorem spec_in {base : Nat} {v : Value} {d : DataW H} {ps : List MemPlace} (hval : Value.okWide Try.prog w .any base 24 v) (h : DataW.Trod enc Try.prog w 0 (fun _ => true) true 24 v d ps) (hsz : ∀ n ∈ d.weights Try.prog 24, n ≤ reachBytes) :
    ∃ s : MSpec, v = s.v ∧ ((Lit.int .u8 s.k).wf = true ∧ (Lit.int .i64 s.key).wf = true ∧ (Lit.int .i64 s.val).wf = true ∧ (Lit.int .i64 s.ent).wf = true) := by
  obtain ⟨v0, v1, v2, v3, y0, y1, y2, y3, n, rfl, _, _, h0, h1, h2, h3⟩ := Joins.open_agg4 Try.underlying24 (by kernel_rfl) (by kernel_rfl) hval h
  obtain ⟨k, rfl, w0⟩ := int_cell rowK h0
  obtain ⟨key, rfl, w1⟩ := int_cell Try.underlying3 h1
  obtain ⟨val, rfl, w2⟩ := int_cell Try.underlying3 h2
  obtain ⟨ent, rfl, w3⟩ := int_cell Try.underlying3 h3
  exact ⟨⟨k, key, val, ent⟩, rfl, w0, w1, w2, w3⟩
end
end Go.Proofs.Ytpoinhfkgnkedaa.M
namespace Go.Proofs.Ytpoinhfkgnkedaa.M
open Go.RowKit
set_option linter.unusedVariables false
set_option linter.unusedSectionVars false
set_option linter.unusedSimpArgs false
def Few (d : DeedA) : Prop := d.ks.length ≤ 80 ∧ d.bs.length ≤ 80
def LightPost (k key val ent : Int) (l : List DeedA) (w : World) (e : Ending) (w' : World) : Prop := ∃ b, e = .returned (.bool b) ∧ (b = true → (ent ≤ 40 ∧ val ≤ 80 ∧ key ≤ 80) ∧ l.length ≤ 60 ∧ ∀ (i : Nat) (d : DeedA), l[i]? = some d → Few d) ∧ w' = w.alloc (.cells #[.int .u8 k, .int .i64 key, .int .i64 val, .int .i64 ent] 24)
theorem light_nums {k n : Nat} (h : k < n) (hn : n ≤ 60) : (0 : Int) ≤ k ∧ (k : Int) < n ∧ wrap64 ((k : Int) + 1) = (k : Int) + 1 := by
  refine ⟨by omega, by omega, ?_⟩
  rw [wrap64]; omega
set_option maxRecDepth 100000 in
set_option maxHeartbeats 4000000 in
theorem light (k key val ent : Int) (v : Value) (l : List DeedA) (w : World) (hs : SeesDeeds w v l) :
    Calls Try.prog 8 #[.agg #[.int .u8 k, .int .i64 key, .int .i64 val, .int .i64 ent], v] w (LightPost k key val ent l w) := by
  obtain ⟨a, c, rfl, hD⟩ := hs
  obtain ⟨W0, hW0⟩ : ∃ W0, W0 = w.alloc (.cells #[.int .u8 k, .int .i64 key, .int .i64 val, .int .i64 ent] 24) := ⟨_, rfl⟩
  have HD : Hid (∀ (i : Nat) (d : DeedA), l[i]? = some d → DeedAt W0 a i d) := Lib.hid fun i d h => (hD i d h).keep (by rw [hW0]; exact (But.refl [] w).alloc _)
  have hd0 : W0.heap[w.heap.size]? = some (.cells #[.int .u8 k, .int .i64 key, .int .i64 val, .int .i64 ent] 24) := by rw [hW0]; exact al_at w _
  have c1 : W0.cell? ⟨w.heap.size, 1, none⟩ = some (.int .i64 key) := cl_of hd0 1
  have c2 : W0.cell? ⟨w.heap.size, 2, none⟩ = some (.int .i64 val) := cl_of hd0 2
  have c3 : W0.cell? ⟨w.heap.size, 3, none⟩ = some (.int .i64 ent) := cl_of hd0 3
  have HW := Lib.hid hW0
  clear hD hW0 hd0
  go_enter Try.func8, Try.ntmps8
  go_upto_region 1 with fail
  rw [← HW.out]
  by_cases h3 : 40 < ent
  · have k3 : decide (40 < ent) = true := decide_eq_true h3
    go_wp2_with fail
    go_ret
    exact ⟨false, rfl, (fun h => by cases h), HW.out⟩
  have k3 : decide (40 < ent) = false := decide_eq_false h3
  by_cases h2 : 80 < val
  · have k2 : decide (80 < val) = true := decide_eq_true h2
    go_wp2_with fail
    go_ret
    exact ⟨false, rfl, (fun h => by cases h), HW.out⟩
  have k2 : decide (80 < val) = false := decide_eq_false h2
  by_cases h1 : 80 < key
  · have k1 : decide (80 < key) = true := decide_eq_true h1
    go_wp2_with fail
    go_ret
    exact ⟨false, rfl, (fun h => by cases h), HW.out⟩
  have k1 : decide (80 < key) = false := decide_eq_false h1
  by_cases h4 : (60 : Int) < l.length
  · have k4 : decide ((60 : Int) < l.length) = true := decide_eq_true h4
    go_wp2_with fail
    go_ret
    exact ⟨false, rfl, (fun h => by cases h), HW.out⟩
  have k4 : decide ((60 : Int) < l.length) = false := decide_eq_false h4
  have HL : Hid (l.length ≤ 60) := Lib.hid (by omega)
  have HH : Hid (ent ≤ 40 ∧ val ≤ 80 ∧ key ≤ 80) := Lib.hid (by omega)
  go_wp2_with fail
  clear h1 h2 h3 k1 k2 k3 c1 c2 c3 h4 k4
  go_loop [5] (fun i => ∃ k : Nat, k ≤ l.length ∧ i = .int .i64 k ∧ ∀ (j : Nat) (d : DeedA), j < k → l[j]? = some d → Few d) (fun i => l.length - (intOf i).toNat)
  case atStart => exact ⟨0, Nat.zero_le _, rfl, fun j d hj => absurd hj (Nat.not_lt_zero _)⟩
  case round =>
    obtain ⟨k, hk, rfl, hall⟩ := hrel
    have HA := Lib.hid hall
    clear hall
    by_cases hlt : k < l.length
    · obtain ⟨hk0, hk1, hw1⟩ := light_nums hlt HL.out
      obtain ⟨d, hd⟩ : ∃ d, l[k]? = some d := ⟨_, List.getElem?_eq_getElem hlt⟩
      obtain ⟨g, o, rfl, hc, hok⟩ := HD.out k d hd
      obtain ⟨a3, c4, e3, _⟩ := sees_shape hok.key
      obtain ⟨a5, c5, e5, _⟩ := sees_shape hok.b
      rw [u8s_len] at e3 e5
      have d1 := hc 1 _ rfl
      have d2 := hc 2 _ rfl
      rw [e3] at d1
      rw [e5] at d2
      have HDD := Lib.hid hd
      have HLT := Lib.hid hlt
      clear hc hok e3 e5 hd hlt
      by_cases q1 : (80 : Int) < d.ks.length
      · have r1 : decide ((80 : Int) < d.ks.length) = true := decide_eq_true q1
        go_wp2_with fail
        go_ret
        exact ⟨false, rfl, (fun h => by cases h), HW.out⟩
      have r1 : decide ((80 : Int) < d.ks.length) = false := decide_eq_false q1
      by_cases q2 : (80 : Int) < d.bs.length
      · have r2 : decide ((80 : Int) < d.bs.length) = true := decide_eq_true q2
        go_wp2_with fail
        go_ret
        exact ⟨false, rfl, (fun h => by cases h), HW.out⟩
      have r2 : decide ((80 : Int) < d.bs.length) = false := decide_eq_false q2
      have HN : Hid (∀ (j : Nat) (d' : DeedA), j < k + 1 → l[j]? = some d' → Few d') := Lib.hid fun j d' hj hd' => by
        by_cases e : j = k
        · subst e
          rw [HDD.out] at hd'
          cases hd'
          exact ⟨by omega, by omega⟩
        · exact HA.out j d' (by omega) hd'
      go_wp2_with fail
      go_round
      case rel => exact ⟨k + 1, HLT.out, by go_num, HN.out⟩
      case measure => exact (round_num HLT.out (Nat.le_trans HL.out (by decide))).2
    · obtain rfl : k = l.length := num_eq hk hlt
      go_wp2_with fail
      go_ret
      exact ⟨true, rfl, (fun _ => ⟨HH.out, HL.out, fun i d hd => HA.out i d (List.getElem?_eq_some_iff.1 hd).1 hd⟩), HW.out⟩
end Go.Proofs.Ytpoinhfkgnkedaa.M
