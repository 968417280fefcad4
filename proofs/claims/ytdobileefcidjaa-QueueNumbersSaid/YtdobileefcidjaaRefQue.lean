/-
  The reference's queue: as it lies; New.
-/
import Derived.Test.YtdobileefcidjaaQueF
import Derived.Test.YtdobileefcidjaaRow
import Derived.Test.YtdobileefcidjaaFlatSp
import Derived.Test.YtdobileefcidjaaRefSpec
namespace Go.Proofs.Ytdobileefcidjaa.M
open Go.RowKit Go.Shelf
set_option linter.unusedVariables false
set_option linter.unusedSectionVars false
set_option linter.unusedSimpArgs false
attribute [local go_sem ↓] Go.wp_at_zero Go.wp_at_succ
/-- The reference's queue as it lies; all its blocks are among the right ones. -/
structure RefQ (w : World) (ok : Nat → Prop) (X : Nat) (k val ent : Int) (rows : List (List Value)) : Prop where
  okX : ok X
  lies : ∃ (a : Option Addr) (c : Nat) (vals : List Value), w.heap[X]? = some (.cells #[.int .u8 k, .int .i64 0, .int .i64 val, .int .i64 ent, .slice a vals.length c] 49) ∧ OwnQ w 36 (.slice a vals.length c) vals ∧ vals.length = rows.length ∧ (∀ b, (Value.slice a vals.length c).ownBlock = some b → ok b) ∧
    ∀ (j : Nat) (v : Value) (r : List Value), vals[j]? = some v → rows[j]? = some r → OwnQ w 5 v r ∧ ∀ b, v.ownBlock = some b → ok b
section
variable {w w' : World} {ok ok' : Nat → Prop} {X : Nat} {k val ent : Int} {rows : List (List Value)}
theorem RefQ.keep {L : List Nat} (h : RefQ w ok X k val ent rows) (hb : But L w w') (hL : ∀ x ∈ L, ¬ ok x) : RefQ w' ok X k val ent rows := by
  obtain ⟨hB, a, c, vals, h1, h2, h3, h4, h5⟩ := h
  refine ⟨hB, a, c, vals, hb.heap h1 (fun hm => hL _ hm hB), h2.but hb (fun b hbl hm => hL _ hm (h4 b hbl)), h3, h4, fun j v r hv hr => ⟨(h5 j v r hv hr).1.but hb (fun b hbl hm => hL _ hm ((h5 j v r hv hr).2 b hbl)), (h5 j v r hv hr).2⟩⟩
/-- All its blocks lie there; those that do not are none of its. -/
theorem RefQ.also (h : RefQ w ok X k val ent rows) (hk : ∀ b, b < w.heap.size → ok b → ok' b) : RefQ w ok' X k val ent rows := by
  obtain ⟨hB, a, c, vals, h1, h2, h3, h4, h5⟩ := h
  exact ⟨hk _ (lt_of h1) hB, a, c, vals, h1, h2, h3, fun b hb => hk b (h2.lt hb) (h4 b hb), fun j v r hv hr => ⟨(h5 j v r hv hr).1, fun b hb => hk b ((h5 j v r hv hr).1.lt hb) ((h5 j v r hv hr).2 b hb)⟩⟩
/-- A new list of rows is stored. -/
theorem RefQ.store {w7 : World} {sl : Value} {rows' : List (List Value)} (hB : ok X) (h1 : w.heap[X]? = some (.cells #[.int .u8 k, .int .i64 0, .int .i64 val, .int .i64 ent, sl] 49)) (hb : But [] w w7) {a3 : Option Addr} {c3 : Nat} {vals : List Value} (hq : OwnQ w7 36 (.slice a3 vals.length c3) vals) (hlow : ∀ b, (Value.slice a3 vals.length c3).ownBlock = some b → ok b) (hlen : vals.length = rows'.length)
    (hrows : ∀ (j : Nat) (v : Value) (r : List Value), vals[j]? = some v → rows'[j]? = some r → OwnQ w7 5 v r ∧ ∀ b, v.ownBlock = some b → ok b) :
    w7.frozen? ⟨X, 4, none⟩ = false ∧ (∃ u, w7.cell? ⟨X, 4, none⟩ = some u) ∧ RefQ (w7.setCell ⟨X, 4, none⟩ (.slice a3 vals.length c3)) ok X k val ent rows' ∧ But [X] w (w7.setCell ⟨X, 4, none⟩ (.slice a3 vals.length c3)) := by
  have hX7 := hb.heap h1 (by simp)
  have hs : But [X] w7 (w7.setCell ⟨X, 4, none⟩ (.slice a3 vals.length c3)) := (But.refl _ _).setCell (.inl (by simp)) _
  have hne : ∀ {e : TypeId} {v : Value} {xs : List Value}, OwnQ w7 e v xs → e ≠ 49 → ∀ b, v.ownBlock = some b → b ∉ [X] := fun hq he b hb hm => by
    simp only [List.mem_singleton] at hm
    subst hm
    obtain ⟨cur, hg⟩ := hq.tag _ hb
    rw [hX7] at hg
    simp only [Option.some.injEq, Obj.cells.injEq] at hg
    exact he hg.2.1.symm
  refine ⟨by unfold World.frozen?; rw [hX7]; simp, ⟨_, cl_of hX7 4⟩, ⟨hB, a3, c3, vals, ?_, hq.but hs (hne hq (by decide)), hlen, hlow, fun j v r hv hr => ⟨(hrows j v r hv hr).1.but hs (hne (hrows j v r hv hr).1 (by decide)), (hrows j v r hv hr).2⟩⟩, (hb.mono (by simp)).trans hs (fun x h => .inl h)⟩
  simp [World.setCell, Array.getElem?_modify, hX7]
/-- A row that is laid anew: an append to none. -/
theorem freshA {w0 wA w5 : World} {e : TypeId} {v' : Value} {xs : List Value} (hb0 : But [] w0 wA) (hz : w0.heap.size < wA.heap.size) (hap : Appended wA w5 e (.slice (some ⟨w0.heap.size, 0, none⟩) 0 0) v' [] xs) : ∃ a c, v' = .slice a xs.length c ∧ OwnQ w5 e (.slice a xs.length c) xs ∧ (∀ b, (Value.slice a xs.length c).ownBlock = some b → w0.heap.size ≤ b) ∧ But [] w0 w5 := by
  obtain ⟨hq, hc⟩ := hap
  rw [List.nil_append] at hq
  obtain ⟨a', c', rfl⟩ := hq.form
  refine ⟨a', c', rfl, hq, ?_⟩
  rcases hc with ⟨a2, cap, e1, e2, _, hb⟩ | ⟨hn, hb⟩
  · simp only [Value.slice.injEq] at e1 e2
    obtain ⟨rfl, _, rfl⟩ := e1
    obtain ⟨rfl, _, rfl⟩ := e2
    exact ⟨fun b hb' => by cases hb'; exact Nat.le_refl _, hb0.trans hb (fun x hx => .inr (by simp [Value.ownBlock] at hx; omega))⟩
  · refine ⟨fun b hb' => ?_, hb0.trans hb (by simp)⟩
    rw [hn] at hb'
    cases hb'
    omega
theorem fresh {w0 w5 : World} {e : TypeId} {v' : Value} {xs : List Value} (hap : Appended (w0.alloc (.cells #[] e)) w5 e (.slice (some ⟨w0.heap.size, 0, none⟩) 0 0) v' [] xs) : ∃ a c, v' = .slice a xs.length c ∧ OwnQ w5 e (.slice a xs.length c) xs ∧ (∀ b, (Value.slice a xs.length c).ownBlock = some b → w0.heap.size ≤ b) ∧ But [] w0 w5 := freshA ((But.refl [] w0).alloc _) (by rw [size_alloc]; omega) hap
theorem fresh_at (w0 : World) (e : TypeId) : OwnQ (w0.alloc (.cells #[] e)) e (.slice (some ⟨w0.heap.size, 0, none⟩) 0 0) [] := .inr ⟨w0.heap.size, 0, 0, #[], rfl, al_at _ _, Nat.le_refl _, by unfold maxLen; omega, by simp, fun j u h => by simp at h⟩
end
theorem refNewErr (k key val ent E : Int) (w : World) (hE : specE k key val ent = E) (h0 : (E == 0) = false) :
    Calls Try.prog 10 #[.agg #[.int .u8 k, .int .i64 key, .int .i64 val, .int .i64 ent]] w fun e w' => e = .returned (.tuple #[.pointer none, .int .i64 E]) ∧ But [] w w' := by
  have hn0 : (E != 0) = true := by simpa using h0
  have HE := Lib.hid hE
  clear hE
  go_enter Try.func10, Try.ntmps10
  go_wp2_with fail
  refine (calls_val (refSpec k key val ent _) (v' := .int .i64 E) (by rw [HE.out])).mono ?_
  rintro e w1 ⟨rfl, hb⟩
  go_wp2_with fail
  go_ret2
  exact ⟨rfl, ((But.refl _ _).alloc _).trans hb (by simp)⟩
theorem refNewKind (k key val ent : Int) (w : World) (hE : specE k key val ent = 0) (h5 : (k == 5) = false) (h6 : (k == 6) = false) :
    Calls Try.prog 10 #[.agg #[.int .u8 k, .int .i64 key, .int .i64 val, .int .i64 ent]] w fun e w' => e = .returned (.tuple #[.pointer none, .int .i64 9]) ∧ But [] w w' := by
  have h5' : (k != 5) = true := by simpa using h5
  have h6' : (k != 6) = true := by simpa using h6
  have HE := Lib.hid hE
  have hb1 : But [] w (w.alloc (.cells #[.int .u8 k, .int .i64 key, .int .i64 val, .int .i64 ent] 24)) := (But.refl [] w).alloc _
  have ha := al_at w (.cells #[.int .u8 k, .int .i64 key, .int .i64 val, .int .i64 ent] 24)
  have HB1 := Lib.hid hb1
  have HAA := Lib.hid ha
  clear hE hb1 ha
  go_enter Try.func10, Try.ntmps10
  go_wp2_with fail
  refine (calls_val (refSpec k key val ent _) (v' := .int .i64 0) (by rw [HE.out])).mono ?_
  rintro e w1 ⟨rfl, hb⟩
  have c0 : w1.cell? ⟨w.heap.size, 0, none⟩ = some (.int .u8 k) := cl_of (hb.heap HAA.out (by simp)) 0
  have HB := Lib.hid hb
  clear hb
  go_wp2_with go_quiet (fail)
  all_goals
    go_wp2_with fail
    go_ret2
    exact ⟨rfl, HB1.out.trans HB.out (by simp)⟩
theorem refNewQ (k val ent : Int) (w : World) (hk : k = 5 ∨ k = 6) (hE : specE k 0 val ent = 0) (ok : Nat → Prop) (hok : ∀ b, w.heap.size ≤ b → ok b) :
    Calls Try.prog 10 #[.agg #[.int .u8 k, .int .i64 0, .int .i64 val, .int .i64 ent]] w fun e w' => ∃ X, e = .returned (.tuple #[.pointer (some ⟨X, 0, none⟩), .int .i64 0]) ∧ RefQ w' ok X k val ent [] ∧ But [] w w' := by
  have HE := Lib.hid hE
  have hb1 : But [] w (w.alloc (.cells #[.int .u8 k, .int .i64 0, .int .i64 val, .int .i64 ent] 24)) := (But.refl [] w).alloc _
  have ha := al_at w (.cells #[.int .u8 k, .int .i64 0, .int .i64 val, .int .i64 ent] 24)
  have HB1 := Lib.hid hb1
  have HAA := Lib.hid ha
  have HOK : Hid (∀ b, w.heap.size ≤ b → ok b) := Lib.hid hok
  clear hE hb1 ha hok
  rcases hk with rfl | rfl
  all_goals
    go_enter Try.func10, Try.ntmps10
    go_wp2_with fail
    refine (calls_val (refSpec _ 0 val ent _) (v' := .int .i64 0) (by rw [HE.out])).mono ?_
    rintro e w1 ⟨rfl, hb⟩
    have hh := hb.heap HAA.out (by simp)
    have c0 : w1.cell? ⟨w.heap.size, 0, none⟩ = some (.int .u8 _) := cl_of hh 0
    have c1 : w1.cell? ⟨w.heap.size, 1, none⟩ = some (.int .i64 0) := cl_of hh 1
    have c2 : w1.cell? ⟨w.heap.size, 2, none⟩ = some (.int .i64 val) := cl_of hh 2
    have c3 : w1.cell? ⟨w.heap.size, 3, none⟩ = some (.int .i64 ent) := cl_of hh 3
    have HB := Lib.hid (HB1.out.trans hb (by simp))
    clear hb hh
    go_wp2_with go_quiet (fail)
    go_wp2_with fail
    go_ret2
    exact ⟨w1.heap.size, rfl, ⟨HOK.out _ HB.out.size, none, 0, [], al_at _ _, .inl ⟨rfl, rfl⟩, rfl, (fun b hb => by cases hb), (fun j v r hv => by simp at hv)⟩, HB.out.alloc _⟩
end Go.Proofs.Ytdobileefcidjaa.M
