/-
  The reference's ring: as it lies; Room, Put, Take, New.
-/
import Derived.Test.YtlajffbjkgedhaaOrder
import Derived.Test.YtlajffbjkgedhaaRow
import Derived.Test.YtlajffbjkgedhaaFlatSp
import Derived.Test.YtlajffbjkgedhaaSpecAny
import Derived.Test.YtlajffbjkgedhaaRefSpec
import Derived.StillTailTactics
namespace Go.Proofs.Ytlajffbjkgedhaa.M
open Go.RowKit
set_option linter.unusedVariables false
set_option linter.unusedSectionVars false
set_option linter.unusedSimpArgs false
def usedR (rows : List (List Value)) : Int := (rows.map fun r => (8 + r.length : Int)).sum
theorem usedR_nonneg (rows : List (List Value)) : 0 ≤ usedR rows := by
  induction rows with
  | nil => simp [usedR]
  | cons x ls ih => simp only [usedR, List.map_cons, List.sum_cons] at *; omega
theorem usedR_snoc (rows : List (List Value)) (r : List Value) : usedR (rows ++ [r]) = usedR rows + (8 + r.length) := by simp [usedR]
theorem usedR_cons (r : List Value) (rows : List (List Value)) : usedR (r :: rows) = (8 + r.length) + usedR rows := by simp [usedR]
theorem usedR_take (rows : List (List Value)) (k : Nat) : usedR (rows.take k) ≤ usedR rows := by
  induction rows generalizing k with
  | nil => simp [usedR]
  | cons x ls ih =>
    cases k with
    | zero => have := usedR_nonneg (x :: ls); simpa [usedR] using this
    | succ k => rw [List.take_succ_cons, usedR_cons, usedR_cons]; have := ih k; omega
/-- The reference's ring as it lies; all its blocks are among the right ones. -/
structure RefS (w : World) (ok : Nat → Prop) (X : Nat) (n : Int) (rows : List (List Value)) : Prop where
  okX : ok X
  lies : ∃ (a : Option Addr) (c : Nat) (vals : List Value), w.heap[X]? = some (.cells #[.int .u8 7, .int .i64 0, .int .i64 0, .int .i64 n, .slice a vals.length c] 60) ∧ OwnQ w 36 (.slice a vals.length c) vals ∧ vals.length = rows.length ∧ (∀ b, (Value.slice a vals.length c).ownBlock = some b → ok b) ∧
    ∀ (j : Nat) (v : Value) (r : List Value), vals[j]? = some v → rows[j]? = some r → OwnQ w 5 v r ∧ ∀ b, v.ownBlock = some b → ok b
theorem RefS.keep {w w' : World} {ok : Nat → Prop} {X : Nat} {n : Int} {rows : List (List Value)} {L : List Nat} (h : RefS w ok X n rows) (hb : But L w w') (hL : ∀ x ∈ L, ¬ ok x) : RefS w' ok X n rows := by
  obtain ⟨hB, a, c, vals, h1, h2, h3, h4, h5⟩ := h
  refine ⟨hB, a, c, vals, hb.heap h1 (fun hm => hL _ hm hB), h2.but hb (fun b hbl hm => hL _ hm (h4 b hbl)), h3, h4, fun j v r hv hr => ⟨(h5 j v r hv hr).1.but hb (fun b hbl hm => hL _ hm ((h5 j v r hv hr).2 b hbl)), (h5 j v r hv hr).2⟩⟩
/-- All its blocks lie there; those that do not are none of its. -/
theorem RefS.also {w : World} {ok ok' : Nat → Prop} {X : Nat} {n : Int} {rows : List (List Value)} (h : RefS w ok X n rows) (hk : ∀ b, b < w.heap.size → ok b → ok' b) : RefS w ok' X n rows := by
  obtain ⟨hB, a, c, vals, h1, h2, h3, h4, h5⟩ := h
  exact ⟨hk _ (lt_of h1) hB, a, c, vals, h1, h2, h3, fun b hb => hk b (h2.lt hb) (h4 b hb), fun j v r hv hr => ⟨(h5 j v r hv hr).1, fun b hb => hk b ((h5 j v r hv hr).1.lt hb) ((h5 j v r hv hr).2 b hb)⟩⟩
/-- A block that bears no rows' list, no bytes, and is no ring's, is none of its. -/
theorem RefS.tags {w : World} {ok : Nat → Prop} {X : Nat} {n : Int} {rows : List (List Value)} (h : RefS w ok X n rows) {L : List Nat} (hL : ∀ x ∈ L, ∃ cs t, w.heap[x]? = some (.cells cs t) ∧ t ≠ 60 ∧ t ≠ 36 ∧ t ≠ 5) : RefS w (fun b => ok b ∧ b ∉ L) X n rows := by
  obtain ⟨hB, a, c, vals, h1, h2, h3, h4, h5⟩ := h
  refine ⟨⟨hB, fun hm => ?_⟩, a, c, vals, h1, h2, h3, fun b hb => ⟨h4 b hb, fun hm => ?_⟩, fun j v r hv hr => ⟨(h5 j v r hv hr).1, fun b hb => ⟨(h5 j v r hv hr).2 b hb, fun hm => ?_⟩⟩⟩
  · obtain ⟨cs, t, hg, h6, _⟩ := hL _ hm
    rw [h1] at hg
    simp only [Option.some.injEq, Obj.cells.injEq] at hg
    exact h6 hg.2.1.symm
  · obtain ⟨cs, t, hg, _, h6, _⟩ := hL _ hm
    obtain ⟨cur, hg'⟩ := h2.tag b hb
    rw [hg'] at hg
    simp only [Option.some.injEq, Obj.cells.injEq] at hg
    exact h6 hg.2.1.symm
  · obtain ⟨cs, t, hg, _, _, h6⟩ := hL _ hm
    obtain ⟨cur, hg'⟩ := (h5 j v r hv hr).1.tag b hb
    rw [hg'] at hg
    simp only [Option.some.injEq, Obj.cells.injEq] at hg
    exact h6 hg.2.1.symm
set_option maxRecDepth 100000 in
set_option maxHeartbeats 1000000 in
theorem RefS.room {w : World} {ok : Nat → Prop} {X : Nat} {n : Int} {rows : List (List Value)} (h : RefS w ok X n rows) (hn0 : 0 ≤ n) (hn : n ≤ 1000000) (hu : usedR rows ≤ n) (hl : rows.length ≤ 1000000) :
    Calls Try.prog 20 #[.pointer (some ⟨X, 0, none⟩)] w fun e w' => e = .returned (.int .i64 (n - usedR rows)) ∧ w = w' := by
  obtain ⟨hB, a, c, vals, h1, h2, h3, h4, h5⟩ := h
  have c3 : w.cell? ⟨X, 3, none⟩ = some (.int .i64 n) := cl_of h1 3
  have c4 : w.cell? ⟨X, 4, none⟩ = some (.slice a vals.length c) := cl_of h1 4
  have H2 := Lib.hid h2
  have H3 := Lib.hid h3
  have H5 := Lib.hid h5
  have hvl : vals.length ≤ 1000000 := by omega
  clear h1 h2 h3 h4 h5
  go_enter Try.func20, Try.ntmps20
  go_wp2_with fail
  go_loop [3, 4] (fun m i => ∃ k : Nat, k ≤ vals.length ∧ i = .int .i64 k ∧ m = .int .i64 (n - usedR (rows.take k))) (fun _ i => vals.length - (intOf i).toNat)
  case atStart => exact ⟨0, Nat.zero_le _, rfl, by simp [usedR]⟩
  case round =>
    obtain ⟨k, hk, rfl, rfl⟩ := hrel
    have hut := usedR_take rows k
    have hu0 := usedR_nonneg (rows.take k)
    by_cases hlt : k < vals.length
    · obtain ⟨v, hv⟩ : ∃ v, vals[k]? = some v := ⟨_, List.getElem?_eq_getElem hlt⟩
      obtain ⟨r, hr⟩ : ∃ r, rows[k]? = some r := ⟨_, List.getElem?_eq_getElem (by have := H3.out; omega)⟩
      obtain ⟨av, cv, rfl⟩ := (H5.out k v r hv hr).1.form
      obtain ⟨g, o, rfl⟩ : ∃ g o, a = some ⟨g, o, none⟩ := by
        rcases H2.out with ⟨h, h0⟩ | ⟨g', o', cap', cur, he, _⟩
        · simp only [Value.slice.injEq] at h; omega
        · simp only [Value.slice.injEq] at he; exact ⟨_, _, he.1⟩
      have cc : w.cell? ⟨g, o + k, none⟩ = some (.slice av r.length cv) := H2.out.cellAt hv
      have hts : usedR (rows.take (k + 1)) = usedR (rows.take k) + (8 + r.length) := by rw [List.take_add_one, hr]; exact usedR_snoc _ _
      have hut2 := usedR_take rows (k + 1)
      have HT := Lib.hid hts
      have hb1 : usedR (rows.take k) + (8 + (r.length : Int)) ≤ n := by omega
      have hk0 : (0 : Int) ≤ k := by omega
      have hk1 : (k : Int) < vals.length := by omega
      clear hv hr hts hut2
      go_wp2_with fail
      go_round
      case rel => exact ⟨k + 1, by omega, by go_num, by rw [HT.out]; congr 1; omega⟩
      case measure => simp [intOf]; omega
    · have HE : Hid (n - usedR (rows.take k) = n - usedR rows) := Lib.hid (by rw [List.take_of_length_le (by have := H3.out; omega)])
      have hge : (vals.length : Int) ≤ k := by omega
      have hge2 : ¬ (k : Int) < vals.length := by omega
      go_wp2_with fail
      go_ret
      exact ⟨by rw [HE.out]; rfl, rfl⟩
theorem refTake_none {w : World} {ok : Nat → Prop} {X : Nat} {n : Int} (h : RefS w ok X n []) :
    Calls Try.prog 13 #[.pointer (some ⟨X, 0, none⟩)] w fun e w' => e = .returned (.tuple #[.slice none 0 0, .int .i64 6]) ∧ w = w' := by
  obtain ⟨hB, a, c, vals, h1, h2, h3, h4, h5⟩ := h
  obtain rfl : vals = [] := List.eq_nil_of_length_eq_zero h3
  have c4 : w.cell? ⟨X, 4, none⟩ = some (.slice a 0 c) := cl_of h1 4
  clear h1 h2 h3 h4 h5
  go_enter Try.func13, Try.ntmps13
  go_wp2_with fail
  go_ret2
  exact ⟨rfl, rfl⟩
set_option maxRecDepth 100000 in
set_option maxHeartbeats 1000000 in
theorem refTake_some {w : World} {ok : Nat → Prop} {X : Nat} {n : Int} {r : List Value} {rows : List (List Value)} (h : RefS w ok X n (r :: rows)) (hl : rows.length ≤ 1000000) (hok : ∀ b, w.heap.size ≤ b → ok b) :
    Calls Try.prog 13 #[.pointer (some ⟨X, 0, none⟩)] w fun e w' => ∃ v, e = .returned (.tuple #[v, .int .i64 0]) ∧ OwnQ w' 5 v r ∧ RefS w' ok X n rows ∧ But [X] w w' := by
  obtain ⟨i0, hi, hz0, hz1, hz2⟩ := info_parts (show (Try.prog.info? 36).map (fun i => (i.zero, i.size, i.bytes)) = some (some (.slice none 0 0), 1, 24) by kernel_rfl)
  obtain ⟨hB, a, c, vals, h1, h2, h3, h4, h5⟩ := h
  obtain ⟨v, vs, rfl⟩ : ∃ v vs, vals = v :: vs := by
    cases vals with
    | nil => simp at h3
    | cons v vs => exact ⟨v, vs, rfl⟩
  have hv := h5 0 v r rfl rfl
  obtain ⟨av, cv, rfl⟩ := hv.1.form
  have hlt := lt_of h1
  have c4 : w.cell? ⟨X, 4, none⟩ = some (.slice a (.slice av r.length cv :: vs).length c) := cl_of h1 4
  have f4 : w.frozen? ⟨X, 4, none⟩ = false := by unfold World.frozen?; rw [h1]; simp
  obtain ⟨g, o, rfl⟩ := h2.addr (by simp)
  have cc : w.cell? ⟨g, o, none⟩ = some (.slice av r.length cv) := h2.cellAt (k := 0) rfl
  have hcap : 1 ≤ c := by
    rcases h2 with ⟨h, _⟩ | ⟨g', o', cap', cur, he, hg, hc, _⟩
    · cases h
    · simp only [Value.slice.injEq] at he
      obtain ⟨_, _, rfl⟩ := he
      simp at hc; omega
  have hvs : vs.length = rows.length := by simpa using h3
  -- the rest, as a source of the new row
  have hsrc : ∀ (a' : Option Addr) (c' : Nat), OwnQ w 36 (.slice a' vs.length c') vs → Src Try.prog i0.size 35 (.slice a' vs.length c') vs.length vs (w.alloc (.cells #[] 36)) := fun a' c' hq => src_sees Try.underlying35 hz1 ((hq.but ((But.refl [] w).alloc _) (by simp)).sees) (fun u hu => by
    obtain ⟨j, hj⟩ := List.getElem?_of_mem hu
    obtain ⟨r', hr'⟩ : ∃ r', rows[j]? = some r' := ⟨_, List.getElem?_eq_getElem (by have := (List.getElem?_eq_some_iff.1 hj).1; omega)⟩
    obtain ⟨a2, c2, rfl⟩ := (h5 (j + 1) u r' (by simpa using hj) (by simpa using hr')).1.form
    rfl)
  have hq0 : OwnQ (w.alloc (.cells #[] 36)) 36 (.slice (some ⟨w.heap.size, 0, none⟩) 0 0) [] := .inr ⟨w.heap.size, 0, 0, #[], rfl, al_at _ _, Nat.le_refl _, by unfold maxLen; omega, by simp, fun j u h => by simp at h⟩
  have key : ∀ (v' : Value) (w5 : World), Appended (w.alloc (.cells #[] 36)) w5 36 (.slice (some ⟨w.heap.size, 0, none⟩) 0 0) v' [] vs → ∃ a' c', v' = Value.slice a' vs.length c' ∧ w5.frozen? ⟨X, 4, none⟩ = false ∧ (∃ u, w5.cell? ⟨X, 4, none⟩ = some u) ∧ OwnQ (w5.setCell ⟨X, 4, none⟩ v') 5 (.slice av r.length cv) r ∧ RefS (w5.setCell ⟨X, 4, none⟩ v') ok X n rows ∧ But [X] w (w5.setCell ⟨X, 4, none⟩ v') := fun v' w5 hap => by
    obtain ⟨hq, hc⟩ := hap
    rw [List.nil_append] at hq
    obtain ⟨a', c', e⟩ := hq.form
    subst e
    have hx : But [] w w5 ∧ ∀ b, (Value.slice a' vs.length c').ownBlock = some b → w.heap.size ≤ b := by
      rcases hc with ⟨a2, cap, e1, e2, _, hb⟩ | ⟨hn, hb⟩
      · simp only [Value.slice.injEq] at e1
        obtain ⟨rfl, _, rfl⟩ := e1
        refine ⟨((But.refl [] w).alloc _).trans hb (fun x hx => .inr (by simp [Value.ownBlock] at hx; omega)), fun b hb' => ?_⟩
        simp only [Value.slice.injEq] at e2
        obtain ⟨rfl, _, rfl⟩ := e2
        cases hb'
        exact Nat.le_refl _
      · refine ⟨((But.refl [] w).alloc _).trans hb (by simp), fun b hb' => ?_⟩
        rw [hn] at hb'
        cases hb'
        rw [size_alloc]
        omega
    have hX5 := hx.1.heap h1 (by simp)
    have hs : But [X] w5 (w5.setCell ⟨X, 4, none⟩ (.slice a' vs.length c')) := (But.refl _ _).setCell (.inl (by simp)) _
    have hne : ∀ {e : TypeId} {v : Value} {xs : List Value}, OwnQ w5 e v xs → e ≠ 60 → ∀ b, v.ownBlock = some b → b ∉ [X] := fun hq he b hb hm => by
      simp only [List.mem_singleton] at hm
      subst hm
      obtain ⟨cur, hg⟩ := hq.tag _ hb
      rw [hX5] at hg
      simp only [Option.some.injEq, Obj.cells.injEq] at hg
      exact he hg.2.1.symm
    have hown : ∀ {v : Value} {xs : List Value}, OwnQ w 5 v xs → OwnQ (w5.setCell ⟨X, 4, none⟩ (.slice a' vs.length c')) 5 v xs := fun h => (h.but hx.1 (by simp)).but hs (hne (h.but hx.1 (by simp)) (by decide))
    refine ⟨a', c', rfl, by unfold World.frozen?; rw [hX5]; simp, ⟨_, cl_of hX5 4⟩, hown hv.1, ⟨hB, a', c', vs, ?_, ?_, hvs, fun b hb => ?_, fun j u q hu hq' => ⟨hown (h5 (j + 1) u q (by simpa using hu) (by simpa using hq')).1, (h5 (j + 1) u q (by simpa using hu) (by simpa using hq')).2⟩⟩, (hx.1.mono (by simp)).trans hs (fun x h => .inl h)⟩
    · simp [World.setCell, Array.getElem?_modify, hX5]
    · exact hq.but hs (hne hq (by decide))
    · exact hok b (hx.2 b hb)
  have KEY := Lib.hid key
  have HQ0 := Lib.hid hq0
  by_cases hc1 : c = 1
  · have HSRC := Lib.hid (hsrc _ _ (h2.tail1 hc1))
    have hvl : vs.length ≤ 1000000 := by omega
    clear h1 h2 h3 h4 h5 hv hsrc hq0 key hvs
    go_enter Try.func13, Try.ntmps13
    go_wp2_with (at_builtin; refine wpList_append_row rfl _ _ 35 rfl 36 i0 (.slice none 0 0) 24 Try.underlying35 hi hz0 hz1 hz2 rfl _ [] rfl HQ0.out vs _ rfl HSRC.out (by unfold maxLen; simp only [List.length_nil]; omega) (by simp only [List.length_nil]; omega) ?_; intro v' w5 hap; obtain ⟨a5, c5, rfl, gf5, ⟨u5, gc5⟩, h5⟩ := KEY.out _ _ hap; have H5 := Lib.hid h5; clear hap h5)
    go_ret2
    exact ⟨_, rfl, H5.out⟩
  · have HSRC := Lib.hid (hsrc _ _ h2.tail)
    have hvl : vs.length ≤ 1000000 := by omega
    clear h1 h2 h3 h4 h5 hv hsrc hq0 key hvs
    go_enter Try.func13, Try.ntmps13
    go_wp2_with (at_builtin; refine wpList_append_row rfl _ _ 35 rfl 36 i0 (.slice none 0 0) 24 Try.underlying35 hi hz0 hz1 hz2 rfl _ [] rfl HQ0.out vs _ rfl HSRC.out (by unfold maxLen; simp only [List.length_nil]; omega) (by simp only [List.length_nil]; omega) ?_; intro v' w5 hap; obtain ⟨a5, c5, rfl, gf5, ⟨u5, gc5⟩, h5⟩ := KEY.out _ _ hap; have H5 := Lib.hid h5; clear hap h5)
    go_ret2
    exact ⟨_, rfl, H5.out⟩
end Go.Proofs.Ytlajffbjkgedhaa.M
