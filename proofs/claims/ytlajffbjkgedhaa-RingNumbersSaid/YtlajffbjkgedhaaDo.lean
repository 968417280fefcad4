/-
  The deeds that come in; great.
-/
import Derived.Test.YtlajffbjkgedhaaOpenS
import Derived.Test.YtlajffbjkgedhaaSame
namespace Go.Proofs.Ytlajffbjkgedhaa.M
open Go.RowKit
set_option linter.unusedVariables false
set_option linter.unusedSectionVars false
set_option linter.unusedSimpArgs false
structure Deed where
  take : Bool
  sl : Value
  bs : List Value
def DeedAt (w : World) (a : Option Addr) (i : Nat) (d : Deed) : Prop :=
  ∃ b o, a = some ⟨b, o, none⟩ ∧ w.cell? ⟨b, o + i * 2, none⟩ = some (.bool d.take) ∧ w.cell? ⟨b, o + i * 2 + 1, none⟩ = some d.sl ∧ Sees w d.sl d.bs ∧ IsBytes d.bs ∧ d.bs.length ≤ 140737488351232
def SeesDeeds (w : World) (v : Value) (l : List Deed) : Prop := ∃ a c, v = .slice a l.length c ∧ ∀ i d, l[i]? = some d → DeedAt w a i d
theorem DeedAt.keep {w w' : World} {a : Option Addr} {i : Nat} {d : Deed} (h : DeedAt w a i d) (hb : But [] w w') : DeedAt w' a i d := by
  obtain ⟨b, o, h1, h2, h3, h4, h5⟩ := h
  exact ⟨b, o, h1, cell_but hb h2 (by simp), cell_but hb h3 (by simp), h4.but hb (by simp), h5⟩
section
variable {H : Type} {enc : TypeId × Value → H} {w : World}
set_option maxRecDepth 100000 in
theorem deeds_in {base : Nat} {v : Value} {d : DataW H} {ps : List MemPlace} (hval : Value.okWide Try.prog w .any base 25 v) (h : DataW.Trod enc Try.prog w 0 (fun _ => true) true 25 v d ps) (hsz : ∀ n ∈ d.weights Try.prog 25, n ≤ reachBytes) :
    ∃ l, SeesDeeds w v l ∧ l.length ≤ 4398046510976 := by
  have hC : Try.prog.cellsOf 39 = 2 := by kernel_rfl
  have hB : Try.prog.bytesOf 39 = 32 := by kernel_rfl
  rcases recs_in Try.underlying25 Try.underlying39 (by rw [hC]; decide) hval h hsz with rfl | ⟨a, len, cap, rfl, hl, hb, hi⟩
  · exact ⟨[], ⟨none, 0, rfl, fun i d h => by cases h⟩, by simp⟩
  · rw [hB] at hb
    have each : ∀ i, i < len → ∃ d, DeedAt w (some a) i d := fun i hil => by
      obtain ⟨b, o, cs, rfl, hcl, hat, n, hr⟩ := hi i hil
      rw [hC] at hcl hat
      match cs, hcl with
      | [c0, c1], _ =>
        obtain ⟨y0, h0, _⟩ := hr 0 _ rfl
        obtain ⟨y1, h1, w1⟩ := hr 1 _ rfl
        have e0 : Try.prog.cellsOf 4 = 1 := by kernel_rfl
        have e1 : Try.prog.cellsOf 36 = 1 := by kernel_rfl
        replace h0 : DataW.trod enc Try.prog w 0 (fun _ => true) true n 4 (([c0, c1].drop 0).take (Try.prog.cellsOf 4)) = some y0 := h0
        rw [e0] at h0
        replace h1 : DataW.trod enc Try.prog w 0 (fun _ => true) true n 36 (([c0, c1].drop 1).take (Try.prog.cellsOf 36)) = some y1 := h1
        rw [e1] at h1
        obtain ⟨t, rfl⟩ := bool_cell Try.underlying4 h0
        obtain ⟨xs, hs, hby, hln⟩ := bytes_cell Try.underlying36 Try.underlying5 (by kernel_rfl) (by kernel_rfl) h1 w1
        exact ⟨⟨t, c1, xs⟩, b, o, rfl, hat 0 (by omega), hat 1 (by omega), hs, hby, hln⟩
    have pick : ∀ i, ∃ d : Deed, i < len → DeedAt w (some a) i d := fun i => by
      by_cases hil : i < len
      · obtain ⟨d, hd⟩ := each i hil
        exact ⟨d, fun _ => hd⟩
      · exact ⟨⟨false, .slice none 0 0, []⟩, fun h => absurd h hil⟩
    obtain ⟨D, hD⟩ := Classical.axiomOfChoice pick
    refine ⟨(List.range len).map D, ⟨some a, cap, by simp, fun i d hd => ?_⟩, by simp; omega⟩
    rw [List.getElem?_map] at hd
    obtain ⟨z, hz, rfl⟩ := Option.map_eq_some_iff.1 hd
    obtain ⟨hj, rfl⟩ := List.getElem?_eq_some_iff.1 hz
    simp only [List.length_range] at hj
    simp only [List.getElem_range]
    exact hD i hj
end
def SomeBool (w : World) (e : Ending) (w' : World) : Prop := ∃ b, e = .returned (.bool b) ∧ But [] w w'
set_option maxHeartbeats 1000000 in
theorem great (v : Value) (l : List Deed) (w : World) (hs : SeesDeeds w v l) (hl : l.length ≤ 4398046510976) :
    Calls Try.prog 7 #[v] w (SomeBool w) := by
  obtain ⟨a, c, rfl, hD⟩ := hs
  have HD := Lib.hid hD
  clear hD
  go_enter Try.func7, Try.ntmps7
  go_wp2
  go_loopw [3, 4] (fun n i wr => ∃ (k : Nat) (m : Int), k ≤ l.length ∧ i = .int .i64 k ∧ n = .int .i64 m ∧ But [] w wr) (fun _ i _ => l.length - (intOf i).toNat)
  case atStart => exact ⟨0, l.length, by omega, rfl, rfl, But.refl _ _⟩
  case round =>
    obtain ⟨k, m, hk, rfl, rfl, hb⟩ := hrel
    have HB := Lib.hid hb
    by_cases hlt : k < l.length
    · obtain ⟨d, hd⟩ : ∃ d, l[k]? = some d := ⟨_, List.getElem?_eq_getElem hlt⟩
      obtain ⟨b, o, rfl, h1, h2, h3, h4, h5⟩ := (HD.out k d hd).keep hb
      obtain ⟨a3, c3, e3, _⟩ := sees_shape h3
      rw [e3] at h2
      have hk0 : (0 : Int) ≤ k := by omega
      have hk1 : (k : Int) < l.length := by omega
      clear hb h3 h4 e3 hd
      by_cases hm : m ≤ 300
      · go_wp2_with fail
        go_roundw
        case rel => exact ⟨k + 1, _, by omega, by go_num, rfl, HB.out⟩
        case measure => simp [intOf]; omega
      · go_wp2_with fail
        go_ret
        exact ⟨_, rfl, HB.out⟩
    · go_wp2_with fail
      go_ret
      exact ⟨_, rfl, HB.out⟩
end Go.Proofs.Ytlajffbjkgedhaa.M
