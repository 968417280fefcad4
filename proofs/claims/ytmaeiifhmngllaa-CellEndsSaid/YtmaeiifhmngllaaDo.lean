/-
  The deeds that come in.
-/
import Derived.Test.YtmaeiifhmngllaaBytesPl
import Derived.Test.YtmaeiifhmngllaaOpenS
namespace Go.Proofs.Ytmaeiifhmngllaa.M
open Go.RowKit Go.Deep Go.ChangeShapes Go.WideShapes Go.ChangeAt
set_option linter.unusedVariables false
set_option linter.unusedSectionVars false
set_option linter.unusedSimpArgs false
structure Deed where
  kind : Int
  off : Int
  size : Int
  cell : CV
  b : Value
  bs : List Int
def DeedAt (w : World) (a : Option Addr) (i : Nat) (d : Deed) : Prop :=
  ∃ g o, a = some ⟨g, o, none⟩ ∧ (w.cell? ⟨g, o + i * 8, none⟩ = some (.int .i64 d.kind) ∧ w.cell? ⟨g, o + i * 8 + 1, none⟩ = some (.int .i64 d.off) ∧ w.cell? ⟨g, o + i * 8 + 2, none⟩ = some (.int .i64 d.size) ∧
    w.cell? ⟨g, o + i * 8 + 3, none⟩ = some (.int .u8 d.cell.k) ∧ w.cell? ⟨g, o + i * 8 + 4, none⟩ = some (.int .u64 d.cell.w) ∧ w.cell? ⟨g, o + i * 8 + 5, none⟩ = some (.int .i64 d.cell.r) ∧ w.cell? ⟨g, o + i * 8 + 6, none⟩ = some (.int .i64 d.cell.o) ∧ w.cell? ⟨g, o + i * 8 + 7, none⟩ = some d.b) ∧
    ((Lit.int .i64 d.kind).wf = true ∧ (Lit.int .i64 d.off).wf = true ∧ (Lit.int .i64 d.size).wf = true ∧ CellWf d.cell) ∧ Sees w d.b (u8s d.bs) ∧ ByteL d.bs ∧ d.bs.length ≤ 140737488351232
def SeesDeeds (w : World) (v : Value) (l : List Deed) : Prop := ∃ a c, v = .slice a l.length c ∧ ∀ i d, l[i]? = some d → DeedAt w a i d
theorem DeedAt.keep {w w' : World} {a : Option Addr} {i : Nat} {d : Deed} (h : DeedAt w a i d) (hb : But [] w w') : DeedAt w' a i d := by
  obtain ⟨g, o, h1, ⟨c0, c1, c2, c3, c4, c5, c6, c7⟩, hw, h4, h5⟩ := h
  exact ⟨g, o, h1, ⟨cell_but hb c0 (by simp), cell_but hb c1 (by simp), cell_but hb c2 (by simp), cell_but hb c3 (by simp), cell_but hb c4 (by simp), cell_but hb c5 (by simp), cell_but hb c6 (by simp), cell_but hb c7 (by simp)⟩, hw, h4.but hb (by simp), h5⟩
section
variable {H : Type} {enc : TypeId × Value → H} {P : Program} {w : World}
theorem bytes8_cell {t e : TypeId} (ht : P.underlying t = some (.slice e)) (he : P.underlying e = some (.int .u8)) (hc : P.cellsOf e = 1) (h1 : P.bytesOf e = 1) {n : Nat} {v : Value} {y : DataW H × List MemPlace}
    (h : DataW.trod enc P w 0 (fun _ => true) true n t [v] = some y) (hsz : ∀ n ∈ y.1.weights P t, n ≤ reachBytes) :
    ∃ l : List Int, Sees w v (u8s l) ∧ ByteL l ∧ l.length ≤ 140737488351232 := by
  have hv : ∃ a l c, v = .slice a l c := by
    rcases DataW.trod_slice ht h with ⟨h0, _⟩ | ⟨a, len, cap, elems, rest, n, _, h0, _⟩
    · simp only [List.cons.injEq, and_true] at h0; exact ⟨_, _, _, h0⟩
    · simp only [List.cons.injEq, and_true] at h0; exact ⟨_, _, _, h0⟩
  obtain ⟨a, l, c, rfl⟩ := hv
  rcases ChangeShapes.open_ints ht he hc h with ⟨hcs, hx⟩ | ⟨a, len', cap', zs, hcs, _, hl, hm, hz, hx, hcell, hwz⟩
  · simp at hcs
    obtain ⟨rfl, rfl, rfl⟩ := hcs
    exact ⟨[], .inl ⟨rfl, rfl⟩, (fun u hu => by cases hu), Nat.zero_le _⟩
  · simp at hcs
    obtain ⟨rfl, rfl, rfl⟩ := hcs
    subst hx
    simp only [if_true] at hz
    have hw := hsz (c * P.bytesOf e) (by
      simp only [DataW.weights, ht, List.mem_cons]
      left
      simp only [ChangeShapes.lits, List.length_map, List.length_take, List.length_drop, hz]
      congr 1
      omega)
    rw [h1, Nat.mul_one] at hw
    have hr : reachBytes = 140737488351232 := rfl
    refine ⟨zs.take l, .inr ⟨a, c, ?_, ?_, fun j u hu => ?_⟩, fun z hz => wf_u8 (hwz z (List.mem_of_mem_take hz)), ?_⟩
    · simp [u8s]; omega
    · simp [u8s]; omega
    · unfold u8s at hu
      rw [List.getElem?_map] at hu
      obtain ⟨z, hz2, rfl⟩ := Option.map_eq_some_iff.1 hu
      have hj : j < zs.length := by
        have := (List.getElem?_eq_some_iff.1 hz2).1
        simp at this
        omega
      rw [hcell j hj]
      rw [List.getElem?_take] at hz2
      split at hz2
      · simp [List.getD, hz2]
      · cases hz2
    · simp; omega
end
section
variable {H : Type} {enc : TypeId × Value → H} {w : World}
set_option maxRecDepth 100000 in
theorem deeds_in {base : Nat} {v : Value} {d : DataW H} {ps : List MemPlace} (hval : Value.okWide Try.prog w .any base 22 v) (h : DataW.Trod enc Try.prog w 0 (fun _ => true) true 22 v d ps) (hsz : ∀ n ∈ d.weights Try.prog 22, n ≤ reachBytes) :
    ∃ l, SeesDeeds w v l ∧ l.length ≤ 1759218604440 := by
  have hC : Try.prog.cellsOf 39 = 8 := by kernel_rfl
  have hB : Try.prog.bytesOf 39 = 80 := by kernel_rfl
  rcases recs_in Try.underlying22 Try.underlying39 (by rw [hC]; decide) hval h hsz with rfl | ⟨a, len, cap, rfl, hl, hb, hi⟩
  · exact ⟨[], ⟨none, 0, rfl, fun i d h => by cases h⟩, by simp⟩
  · rw [hB] at hb
    have each : ∀ i, i < len → ∃ d, DeedAt w (some a) i d := fun i hil => by
      obtain ⟨g, o, cs, rfl, hcl, hat, n, hr⟩ := hi i hil
      rw [hC] at hcl hat
      match cs, hcl with
      | [x0, x1, x2, x3, x4, x5, x6, x7], _ =>
        obtain ⟨y0, h0, _⟩ := hr 0 _ rfl
        obtain ⟨y1, h1, _⟩ := hr 1 _ rfl
        obtain ⟨y2, h2, _⟩ := hr 2 _ rfl
        obtain ⟨y3, h3, w3⟩ := hr 3 _ rfl
        obtain ⟨y4, h4, w4⟩ := hr 4 _ rfl
        have e0 : Try.prog.cellsOf 3 = 1 := by kernel_rfl
        have e1 : Try.prog.cellsOf 2 = 1 := by kernel_rfl
        have e3 : Try.prog.cellsOf 33 = 4 := by kernel_rfl
        have e4 : Try.prog.cellsOf 37 = 1 := by kernel_rfl
        replace h0 : DataW.trod enc Try.prog w 0 (fun _ => true) true n 3 (([x0, x1, x2, x3, x4, x5, x6, x7].drop 0).take (Try.prog.cellsOf 3)) = some y0 := h0
        rw [e0] at h0
        replace h1 : DataW.trod enc Try.prog w 0 (fun _ => true) true n 2 (([x0, x1, x2, x3, x4, x5, x6, x7].drop 1).take (Try.prog.cellsOf 2)) = some y1 := h1
        rw [e1] at h1
        replace h2 : DataW.trod enc Try.prog w 0 (fun _ => true) true n 3 (([x0, x1, x2, x3, x4, x5, x6, x7].drop 2).take (Try.prog.cellsOf 3)) = some y2 := h2
        rw [e0] at h2
        replace h3 : DataW.trod enc Try.prog w 0 (fun _ => true) true n 33 (([x0, x1, x2, x3, x4, x5, x6, x7].drop 3).take (Try.prog.cellsOf 33)) = some y3 := h3
        rw [e3] at h3
        replace h4 : DataW.trod enc Try.prog w 0 (fun _ => true) true n 37 (([x0, x1, x2, x3, x4, x5, x6, x7].drop 7).take (Try.prog.cellsOf 37)) = some y4 := h4
        rw [e4] at h4
        obtain ⟨n3, hr3⟩ := reads_of Try.underlying33 h3 w3
        obtain ⟨z0, q0, _⟩ := hr3 0 _ rfl
        obtain ⟨z1, q1, _⟩ := hr3 1 _ rfl
        obtain ⟨z2, q2, _⟩ := hr3 2 _ rfl
        obtain ⟨z3, q3, _⟩ := hr3 3 _ rfl
        have ek : Try.prog.cellsOf 30 = 1 := by kernel_rfl
        have eu : Try.prog.cellsOf 31 = 1 := by kernel_rfl
        replace q0 : DataW.trod enc Try.prog w 0 (fun _ => true) true n3 30 (([x3, x4, x5, x6].drop 0).take (Try.prog.cellsOf 30)) = some z0 := q0
        rw [ek] at q0
        replace q1 : DataW.trod enc Try.prog w 0 (fun _ => true) true n3 31 (([x3, x4, x5, x6].drop 1).take (Try.prog.cellsOf 31)) = some z1 := q1
        rw [eu] at q1
        replace q2 : DataW.trod enc Try.prog w 0 (fun _ => true) true n3 3 (([x3, x4, x5, x6].drop 2).take (Try.prog.cellsOf 3)) = some z2 := q2
        rw [e0] at q2
        replace q3 : DataW.trod enc Try.prog w 0 (fun _ => true) true n3 2 (([x3, x4, x5, x6].drop 3).take (Try.prog.cellsOf 2)) = some z3 := q3
        rw [e1] at q3
        obtain ⟨kd, rfl, wkd⟩ := int_cell Try.underlying3 h0
        obtain ⟨off, rfl, wof⟩ := int_cell Try.underlying2 h1
        obtain ⟨sz, rfl, wsz⟩ := int_cell Try.underlying3 h2
        obtain ⟨k, rfl, wk⟩ := int_cell Try.underlying30 q0
        obtain ⟨wd, rfl, ww⟩ := int_cell Try.underlying31 q1
        obtain ⟨rg, rfl, wr⟩ := int_cell Try.underlying3 q2
        obtain ⟨co, rfl, wo⟩ := int_cell Try.underlying2 q3
        obtain ⟨bs, hs, hby, hln⟩ := bytes8_cell Try.underlying37 Try.underlying5 (by kernel_rfl) (by kernel_rfl) h4 w4
        exact ⟨⟨kd, off, sz, ⟨k, wd, rg, co⟩, x7, bs⟩, g, o, rfl, ⟨hat 0 (by omega), hat 1 (by omega), hat 2 (by omega), hat 3 (by omega), hat 4 (by omega), hat 5 (by omega), hat 6 (by omega), hat 7 (by omega)⟩, ⟨wkd, wof, wsz, wk, ww, wr, wo⟩, hs, hby, hln⟩
    have pick : ∀ i, ∃ d : Deed, i < len → DeedAt w (some a) i d := fun i => by
      by_cases hil : i < len
      · obtain ⟨d, hd⟩ := each i hil
        exact ⟨d, fun _ => hd⟩
      · exact ⟨⟨0, 0, 0, c0, .slice none 0 0, []⟩, fun h => absurd h hil⟩
    obtain ⟨D, hD⟩ := Classical.axiomOfChoice pick
    refine ⟨(List.range len).map D, ⟨some a, cap, by simp, fun i d hd => ?_⟩, by simp; omega⟩
    rw [List.getElem?_map] at hd
    obtain ⟨z, hz, rfl⟩ := Option.map_eq_some_iff.1 hd
    obtain ⟨hj, rfl⟩ := List.getElem?_eq_some_iff.1 hz
    simp only [List.length_range] at hj
    simp only [List.getElem_range]
    exact hD i hj
end
end Go.Proofs.Ytmaeiifhmngllaa.M
