/-
  The deeds that come in; great.
-/
import Derived.Test.YtdobileefcidjaaOpenS
import Derived.Test.YtdobileefcidjaaSame
import Derived.Test.YtdobileefcidjaaQueF
namespace Go.Proofs.Ytdobileefcidjaa.M
open Go.RowKit
set_option linter.unusedVariables false
set_option linter.unusedSectionVars false
set_option linter.unusedSimpArgs false
structure Deed where
  what : Int
  sl : Value
  bs : List Value
  flags : Int
def DeedAt (w : World) (a : Option Addr) (i : Nat) (d : Deed) : Prop :=
  ∃ b o, a = some ⟨b, o, none⟩ ∧ w.cell? ⟨b, o + i * 3, none⟩ = some (.int .i64 d.what) ∧ w.cell? ⟨b, o + i * 3 + 1, none⟩ = some d.sl ∧ w.cell? ⟨b, o + i * 3 + 2, none⟩ = some (.int .u64 d.flags) ∧ (Lit.int .i64 d.what).wf = true ∧ Sees w d.sl d.bs ∧ IsBytes d.bs ∧ d.bs.length ≤ 140737488351232
def SeesDeeds (w : World) (v : Value) (l : List Deed) : Prop := ∃ a c, v = .slice a l.length c ∧ ∀ i d, l[i]? = some d → DeedAt w a i d
theorem DeedAt.keep {w w' : World} {a : Option Addr} {i : Nat} {d : Deed} (h : DeedAt w a i d) (hb : But [] w w') : DeedAt w' a i d := by
  obtain ⟨b, o, h1, h2, h3, h3', hw, h4, h5⟩ := h
  exact ⟨b, o, h1, cell_but hb h2 (by simp), cell_but hb h3 (by simp), cell_but hb h3' (by simp), hw, h4.but hb (by simp), h5⟩
section
variable {H : Type} {enc : TypeId × Value → H} {w : World}
set_option maxRecDepth 100000 in
theorem deeds_in {base : Nat} {v : Value} {d : DataW H} {ps : List MemPlace} (hval : Value.okWide Try.prog w .any base 25 v) (h : DataW.Trod enc Try.prog w 0 (fun _ => true) true 25 v d ps) (hsz : ∀ n ∈ d.weights Try.prog 25, n ≤ reachBytes) :
    ∃ l, SeesDeeds w v l ∧ l.length ≤ 3518437208780 := by
  have hC : Try.prog.cellsOf 40 = 3 := by kernel_rfl
  have hB : Try.prog.bytesOf 40 = 40 := by kernel_rfl
  rcases recs_in Try.underlying25 Try.underlying40 (by rw [hC]; decide) hval h hsz with rfl | ⟨a, len, cap, rfl, hl, hb, hi⟩
  · exact ⟨[], ⟨none, 0, rfl, fun i d h => by cases h⟩, by simp⟩
  · rw [hB] at hb
    have each : ∀ i, i < len → ∃ d, DeedAt w (some a) i d := fun i hil => by
      obtain ⟨b, o, cs, rfl, hcl, hat, n, hr⟩ := hi i hil
      rw [hC] at hcl hat
      match cs, hcl with
      | [c0, c1, c2], _ =>
        obtain ⟨y0, h0, _⟩ := hr 0 _ rfl
        obtain ⟨y1, h1, w1⟩ := hr 1 _ rfl
        obtain ⟨y2, h2, _⟩ := hr 2 _ rfl
        have e0 : Try.prog.cellsOf 3 = 1 := by kernel_rfl
        have e1 : Try.prog.cellsOf 36 = 1 := by kernel_rfl
        have e2 : Try.prog.cellsOf 38 = 1 := by kernel_rfl
        replace h0 : DataW.trod enc Try.prog w 0 (fun _ => true) true n 3 (([c0, c1, c2].drop 0).take (Try.prog.cellsOf 3)) = some y0 := h0
        rw [e0] at h0
        replace h1 : DataW.trod enc Try.prog w 0 (fun _ => true) true n 36 (([c0, c1, c2].drop 1).take (Try.prog.cellsOf 36)) = some y1 := h1
        rw [e1] at h1
        replace h2 : DataW.trod enc Try.prog w 0 (fun _ => true) true n 38 (([c0, c1, c2].drop 2).take (Try.prog.cellsOf 38)) = some y2 := h2
        rw [e2] at h2
        obtain ⟨t, rfl, wt⟩ := int_cell Try.underlying3 h0
        obtain ⟨xs, hs, hby, hln⟩ := bytes_cell Try.underlying36 Try.underlying5 (by kernel_rfl) (by kernel_rfl) h1 w1
        obtain ⟨fl, rfl, _⟩ := int_cell Try.underlying38 h2
        exact ⟨⟨t, c1, xs, fl⟩, b, o, rfl, hat 0 (by omega), hat 1 (by omega), hat 2 (by omega), wt, hs, hby, hln⟩
    have pick : ∀ i, ∃ d : Deed, i < len → DeedAt w (some a) i d := fun i => by
      by_cases hil : i < len
      · obtain ⟨d, hd⟩ := each i hil
        exact ⟨d, fun _ => hd⟩
      · exact ⟨⟨0, .slice none 0 0, [], 0⟩, fun h => absurd h hil⟩
    obtain ⟨D, hD⟩ := Classical.axiomOfChoice pick
    refine ⟨(List.range len).map D, ⟨some a, cap, by simp, fun i d hd => ?_⟩, by simp; omega⟩
    rw [List.getElem?_map] at hd
    obtain ⟨z, hz, rfl⟩ := Option.map_eq_some_iff.1 hd
    obtain ⟨hj, rfl⟩ := List.getElem?_eq_some_iff.1 hz
    simp only [List.length_range] at hj
    simp only [List.getElem_range]
    exact hD i hj
end
def SomeBool (w : World) (e : Ending) (w' : World) : Prop := ∃ b, e = .returned (.bool b) ∧ But [] w w'
set_option maxHeartbeats 1000000 in
theorem great (v : Value) (l : List Deed) (w : World) (hs : SeesDeeds w v l) (hl : l.length ≤ 3518437208780) :
    Calls Try.prog 7 #[v] w (SomeBool w) := by
  obtain ⟨a, c, rfl, hD⟩ := hs
  have HD := Lib.hid hD
  clear hD
  go_enter Try.func7, Try.ntmps7
  go_wp2
  go_loopw [3, 4] (fun n i wr => ∃ (k : Nat) (m : Int), k ≤ l.length ∧ i = .int .i64 k ∧ n = .int .i64 m ∧ But [] w wr) (fun _ i _ => l.length - (intOf i).toNat)
  case atStart => exact ⟨0, l.length, by omega, rfl, rfl, But.refl _ _⟩
  case round =>
    obtain ⟨k, m, hk, rfl, rfl, hb⟩ := hrel
    have HB := Lib.hid hb
    by_cases hlt : k < l.length
    · obtain ⟨d, hd⟩ : ∃ d, l[k]? = some d := ⟨_, List.getElem?_eq_getElem hlt⟩
      obtain ⟨b, o, rfl, h1, h2, h2', hw, h3, h4, h5⟩ := (HD.out k d hd).keep hb
      obtain ⟨a3, c3, e3, _⟩ := sees_shape h3
      rw [e3] at h2
      have hk0 : (0 : Int) ≤ k := by omega
      have hk1 : (k : Int) < l.length := by omega
      clear hb h3 h4 e3 hd hw
      by_cases hm : m ≤ 400
      · go_wp2_with fail
        go_roundw
        case rel => exact ⟨k + 1, _, by omega, by go_num, rfl, HB.out⟩
        case measure => simp [intOf]; omega
      · go_wp2_with fail
        go_ret
        exact ⟨_, rfl, HB.out⟩
    · go_wp2_with fail
      go_ret
      exact ⟨_, rfl, HB.out⟩
def GreatPost (l : List Deed) (w : World) (e : Ending) (w' : World) : Prop := ∃ b, e = .returned (.bool b) ∧ (b = false → l.length ≤ 400) ∧ But [] w w'
set_option maxRecDepth 100000 in
set_option maxHeartbeats 1000000 in
theorem great2 (v : Value) (l : List Deed) (w : World) (hs : SeesDeeds w v l) (hl : l.length ≤ 3518437208780) :
    Calls Try.prog 7 #[v] w (GreatPost l w) := by
  by_cases h3 : l.length ≤ 400
  · exact (great v l w hs hl).mono fun e w' ⟨b, he, hb⟩ => ⟨b, he, fun _ => h3, hb⟩
  · obtain ⟨a, c, rfl, hD⟩ := hs
    clear hD
    have h4 : (400 : Int) < l.length := by omega
    have h5 : ¬ ((l.length : Int) ≤ 400) := by omega
    go_enter Try.func7, Try.ntmps7
    go_wp2_with fail
    refine wp_loop_rounds 1 ?_
    rw [rounds_succ]
    go_wp2_with fail
    go_ret
    exact ⟨true, rfl, (fun h => by cases h), But.refl _ _⟩
section
variable {H : Type} {enc : TypeId × Value → H} {w : World}
set_option maxRecDepth 100000 in
theorem spec_in {base : Nat} {v : Value} {d : DataW H} {ps : List MemPlace} (hval : Value.okWide Try.prog w .any base 24 v) (h : DataW.Trod enc Try.prog w 0 (fun _ => true) true 24 v d ps) (hsz : ∀ n ∈ d.weights Try.prog 24, n ≤ reachBytes) :
    ∃ s : MSpec, v = s.v ∧ ((Lit.int .u8 s.k).wf = true ∧ (Lit.int .i64 s.key).wf = true ∧ (Lit.int .i64 s.val).wf = true ∧ (Lit.int .i64 s.ent).wf = true) := by
  obtain ⟨v0, v1, v2, v3, y0, y1, y2, y3, n, rfl, _, _, h0, h1, h2, h3⟩ := Joins.open_agg4 Try.underlying24 (by kernel_rfl) (by kernel_rfl) hval h
  obtain ⟨k, rfl, w0⟩ := int_cell rowK h0
  obtain ⟨key, rfl, w1⟩ := int_cell Try.underlying3 h1
  obtain ⟨val, rfl, w2⟩ := int_cell Try.underlying3 h2
  obtain ⟨ent, rfl, w3⟩ := int_cell Try.underlying3 h3
  exact ⟨⟨k, key, val, ent⟩, rfl, w0, w1, w2, w3⟩
end
theorem map_int {xs : List Value} (h : IsBytes xs) : ∃ ns : List Int, xs = ns.map (.int .u8) := by
  induction xs with
  | nil => exact ⟨[], rfl⟩
  | cons x xs ih =>
    obtain ⟨ns, rfl⟩ := ih (fun u hu => h u (by simp [hu]))
    obtain ⟨n, rfl⟩ := h x (by simp)
    exact ⟨n :: ns, rfl⟩
/-- Two slices that show the same bytes are the same. -/
theorem same_yes (s t : Value) (xs : List Value) (w : World) (hs : Sees w s xs) (ht : Sees w t xs) (h1 : IsBytes xs) (hl : xs.length ≤ 1000000000000) :
    Calls Try.prog 15 #[s, t] w fun e w' => e = .returned (.bool true) ∧ But [] w w' := by
  obtain ⟨ns, rfl⟩ := map_int h1
  refine (same s t ns ns w hs ht (by simpa using hl)).mono ?_
  rintro e w' ⟨rfl, hb⟩
  exact ⟨by simp, hb⟩
theorem sl_of {w : World} {s : Value} {xs : List Value} (h : Sees w s xs) : ∃ a c, s = .slice a xs.length c := by
  obtain ⟨a, c, e, _⟩ := sees_shape h
  exact ⟨a, c, e⟩
theorem lit_bounds {n : Int} (h : (Lit.int .i64 n).wf = true) : -9223372036854775808 ≤ n ∧ n ≤ 9223372036854775807 := by
  simp only [Lit.wf, Bool.and_eq_true, decide_eq_true_eq] at h
  exact ⟨h.1, h.2⟩
end Go.Proofs.Ytdobileefcidjaa.M
