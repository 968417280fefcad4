/-
  An array as it lies; known, at; what no array tells.
-/
import Derived.Test.YtkgoblpddjpcnaaGreatPlace
import Derived.Test.YtkgoblpddjpcnaaGreatClone
import Derived.Test.YtkgoblpddjpcnaaGreatOwnQ
import Derived.Deep.RegionHeld3
import Derived.Deep.DrawnRows
import Derived.Laws.CopyOwn
namespace Go.Proofs.YtkgoblpddjpcnaaGreat.M
open Go.RowKit Go.Shelf
set_option linter.unusedVariables false
set_option linter.unusedSectionVars false
set_option linter.unusedSimpArgs false
attribute [local go_sem ↓] Go.wp_at_zero Go.wp_at_succ
/-- No array, or one that nobody made. -/
def OffA (w : World) (v : Value) : Prop := v = .pointer none ∨ ∃ A l, v = .pointer (some ⟨A, 0, none⟩) ∧ w.heap[A]? = some (.cells #[l, .int .i64 0] 58)
theorem OffA.but {w w' : World} {v : Value} (h : OffA w v) (hb : But [] w w') : OffA w' v := by
  rcases h with h | ⟨Q, l, h, hQ⟩
  · exact .inl h
  · exact .inr ⟨Q, l, h, hb.heap hQ (by simp)⟩
theorem known_off (v : Value) (w : World) (h : OffA w v) : Calls Tryz.prog 34 #[v] w fun e w' => e = thrown 1 ∧ w = w' := by
  rcases h with rfl | ⟨A, l, rfl, hA⟩
  · go_enter Tryz.func34, Tryz.ntmps34
    go_wp2_with (go_at_call 22; refine (must_no _ _).mono ?_; rintro e w1 ⟨he, rfl⟩; dsimp only [thrown] at he; subst he)
    exact ⟨rfl, rfl, rfl⟩
  · have c1 : w.cell? ⟨A, 1, none⟩ = some (.int .i64 0) := cl_of hA 1
    go_enter Tryz.func34, Tryz.ntmps34
    go_wp2_with (go_at_call 22; refine (must_no _ _).mono ?_; rintro e w1 ⟨he, rfl⟩; dsimp only [thrown] at he; subst he)
    exact ⟨rfl, rfl, rfl⟩
/-- An array, as it lies; all its blocks are among the right ones. -/
structure ArrS (w : World) (ok : Nat → Prop) (A : Nat) (size : Nat) (rows : List (List Value)) : Prop where
  okA : ok A
  lies : ∃ (a : Option Addr) (c : Nat) (vals : List Value), w.heap[A]? = some (.cells #[.slice a vals.length c, .int .i64 size] 58) ∧ OwnQ w 36 (.slice a vals.length c) vals ∧ vals.length = rows.length ∧ (∀ b, (Value.slice a vals.length c).ownBlock = some b → ok b) ∧ (∀ (i j : Nat) (u v : Value) (b : Nat), vals[i]? = some u → vals[j]? = some v → u.ownBlock = some b → v.ownBlock = some b → i = j) ∧
    ∀ (j : Nat) (v : Value) (r : List Value), vals[j]? = some v → rows[j]? = some r → OwnQ w 5 v r ∧ ∀ b, v.ownBlock = some b → ok b
  each : ∀ r ∈ rows, (∀ u ∈ r, ∃ n : Int, u = .int .u8 n) ∧ r.length = size
  pos : 1 ≤ size ∧ size ≤ 1024
  few : rows.length ≤ 1024
section
variable {w w' : World} {ok ok' : Nat → Prop} {A size : Nat} {rows : List (List Value)}
theorem ArrS.keep {L : List Nat} (h : ArrS w ok A size rows) (hb : But L w w') (hL : ∀ x ∈ L, ¬ ok x) : ArrS w' ok A size rows := by
  obtain ⟨hB, ⟨a, c, vals, h1, h2, h3, h4, h6, h5⟩, g1, g2, g3⟩ := h
  exact ⟨hB, ⟨a, c, vals, hb.heap h1 (fun hm => hL _ hm hB), h2.but hb (fun b hbl hm => hL _ hm (h4 b hbl)), h3, h4, h6, fun j v r hv hr => ⟨(h5 j v r hv hr).1.but hb (fun b hbl hm => hL _ hm ((h5 j v r hv hr).2 b hbl)), (h5 j v r hv hr).2⟩⟩, g1, g2, g3⟩
theorem ArrS.also (h : ArrS w ok A size rows) (hk : ∀ b, b < w.heap.size → ok b → ok' b) : ArrS w ok' A size rows := by
  obtain ⟨hB, ⟨a, c, vals, h1, h2, h3, h4, h6, h5⟩, g1, g2, g3⟩ := h
  exact ⟨hk _ (lt_of h1) hB, ⟨a, c, vals, h1, h2, h3, fun b hb => hk b (h2.lt hb) (h4 b hb), h6, fun j v r hv hr => ⟨(h5 j v r hv hr).1, fun b hb => hk b ((h5 j v r hv hr).1.lt hb) ((h5 j v r hv hr).2 b hb)⟩⟩, g1, g2, g3⟩
theorem ArrS.known (h : ArrS w ok A size rows) : Calls Tryz.prog 34 #[.pointer (some ⟨A, 0, none⟩)] w fun e w' => e = .returned (.tuple #[]) ∧ w = w' := by
  obtain ⟨hB, ⟨a, c, vals, h1, h2, h3, h4, h6, h5⟩, g1, g2, g3⟩ := h
  have c1 : w.cell? ⟨A, 1, none⟩ = some (.int .i64 size) := cl_of h1 1
  have hs : (0 : Int) < size := by omega
  have d1 : decide (0 < size) = true := by simp; omega
  clear h1 h2 h3 h4 h5 h6 g1 g2 g3 hB
  go_enter Tryz.func34, Tryz.ntmps34
  go_wp2_with (go_at_call 22; refine (must_yes _ _).mono ?_; rintro e w1 ⟨rfl, rfl⟩)
  go_end0
  exact ⟨rfl, rfl⟩
theorem ArrS.atNo (h : ArrS w ok A size rows) (p : Int) (hp : p < 0 ∨ (rows.length : Int) ≤ p) : Calls Tryz.prog 36 #[.pointer (some ⟨A, 0, none⟩), .int .i64 p] w fun e w' => e = thrown 6 ∧ w = w' := by
  obtain ⟨hB, ⟨a, c, vals, h1, h2, h3, h4, h6, h5⟩, g1, g2, g3⟩ := h
  have c0 : w.cell? ⟨A, 0, none⟩ = some (.slice a vals.length c) := cl_of h1 0
  rw [← h3] at hp
  clear h1 h2 h3 h4 h5 h6 g1 g2 g3 hB
  by_cases h0 : p < 0
  · have d0 : decide (0 ≤ p) = false := by simp; omega
    go_enter Tryz.func36, Tryz.ntmps36
    go_wp2_with (go_at_call 22; refine (must_no _ _).mono ?_; rintro e w1 ⟨he, rfl⟩; dsimp only [thrown] at he; subst he)
    exact ⟨rfl, rfl, rfl⟩
  · have d0 : decide (0 ≤ p) = true := by simp; omega
    have d1 : decide (p < (vals.length : Int)) = false := by simp; omega
    go_enter Tryz.func36, Tryz.ntmps36
    go_wp2_with (go_at_call 22; refine (must_no _ _).mono ?_; rintro e w1 ⟨he, rfl⟩; dsimp only [thrown] at he; subst he)
    exact ⟨rfl, rfl, rfl⟩
/-- The value at a place: a slice of the array's own. -/
def ValAt (w : World) (A j : Nat) (v : Value) : Prop := ∃ (g o n c : Nat) (s : Value), w.heap[A]? = some (.cells #[.slice (some ⟨g, o, none⟩) n c, s] 58) ∧ w.cell? ⟨g, o + j, none⟩ = some v
theorem ArrS.at (h : ArrS w ok A size rows) (j : Nat) (r : List Value) (hr : rows[j]? = some r) : Calls Tryz.prog 36 #[.pointer (some ⟨A, 0, none⟩), .int .i64 j] w fun e w' => ∃ a c, e = .returned (.slice a size c) ∧ OwnQ w 5 (.slice a size c) r ∧ ValAt w A j (.slice a size c) ∧ w = w' := by
  obtain ⟨hB, ⟨a, c, vals, h1, h2, h3, h4, h6, h5⟩, g1, g2, g3⟩ := h
  have hjl : j < vals.length := by have := (List.getElem?_eq_some_iff.1 hr).1; omega
  obtain ⟨v, hv⟩ : ∃ v, vals[j]? = some v := ⟨_, List.getElem?_eq_getElem hjl⟩
  have ho := (h5 j v r hv hr).1
  obtain ⟨av, cv, rfl⟩ := ho.form
  have hrl : r.length = size := (g1 r (List.mem_of_getElem? hr)).2
  rw [hrl] at hv ho
  obtain ⟨g, o, rfl⟩ := h2.addr (by omega)
  have cc : w.cell? ⟨g, o + j, none⟩ = some (.slice av size cv) := h2.cellAt hv
  have HV : Hid (ValAt w A j (.slice av size cv)) := Lib.hid ⟨g, o, _, c, _, h1, cc⟩
  have c0 : w.cell? ⟨A, 0, none⟩ = some (.slice (some ⟨g, o, none⟩) vals.length c) := cl_of h1 0
  have HO := Lib.hid ho
  have hj0 : (0 : Int) ≤ j := by omega
  have hj1 : (j : Int) < vals.length := by omega
  clear h1 h2 h3 h4 h5 h6 g1 g2 g3 hB hr hv ho hrl
  go_enter Tryz.func36, Tryz.ntmps36
  go_wp2_with (go_at_call 22; refine (must_yes _ _).mono ?_; rintro e w1 ⟨rfl, rfl⟩)
  go_ret
  exact ⟨_, _, rfl, HO.out, HV.out, rfl⟩
theorem OwnQ.spliced {e : TypeId} {g o n c : Nat} {r cs : List Value} {cur : Array Value} (h : OwnQ w e (.slice (some ⟨g, o, none⟩) n c) r) (hg : w.heap[g]? = some (.cells cur e (0, 0))) (off : Nat) (hf : off + cs.length ≤ r.length) (hw : w'.heap[g]? = some (.cells (splice cur.toList (o + off) cs).toArray e (0, 0))) : o + off + cs.length ≤ cur.size ∧ OwnQ w' e (.slice (some ⟨g, o, none⟩) n c) (splice r off cs) := by
  rcases h with ⟨h, _⟩ | ⟨g', o', cap', cur', h, hg', hc', hm, hs, hx⟩
  · cases h
  · simp only [Value.slice.injEq, Option.some.injEq, Addr.mk.injEq] at h
    obtain ⟨⟨rfl, rfl, _⟩, rfl, rfl⟩ := h
    rw [hg] at hg'
    simp only [Option.some.injEq, Obj.cells.injEq] at hg'
    obtain ⟨rfl, _, _⟩ := hg'
    have hcl : cur.toList.length = cur.size := Array.length_toList
    have hl1 : (splice cur.toList (o + off) cs).length = cur.size := by rw [length_splice _ _ _ (by omega)]; exact hcl
    have hl2 : (splice r off cs).length = r.length := length_splice _ _ _ hf
    refine ⟨by omega, .inr ⟨g, o, c, _, by rw [hl2], hw, by omega, hm, by rw [List.size_toArray, hl1]; exact hs, fun j u hj => ?_⟩⟩
    have hjr : j < r.length := by have := (List.getElem?_eq_some_iff.1 hj).1; omega
    rw [List.getElem?_toArray]
    unfold splice at hj ⊢
    by_cases h1 : j < off
    · rw [List.getElem?_append_left (by rw [List.length_take]; omega), List.getElem?_take, if_pos h1] at hj
      rw [List.getElem?_append_left (by rw [List.length_take]; omega), List.getElem?_take, if_pos (by omega), Array.getElem?_toList]
      exact hx j u hj
    · rw [List.getElem?_append_right (by rw [List.length_take]; omega), List.length_take, Nat.min_eq_left (by omega)] at hj
      have hl3 : (cur.toList.take (o + off)).length = o + off := by rw [List.length_take]; omega
      rw [List.getElem?_append_right (by omega), hl3]
      by_cases h2 : j - off < cs.length
      · rw [List.getElem?_append_left h2] at hj
        rw [List.getElem?_append_left (by omega), show o + j - (o + off) = j - off by omega]
        exact hj
      · rw [List.getElem?_append_right (by omega), List.getElem?_drop] at hj
        rw [List.getElem?_append_right (by omega), List.getElem?_drop, show o + off + cs.length + (o + j - (o + off) - cs.length) = o + j by omega, Array.getElem?_toList]
        rw [show off + cs.length + (j - off - cs.length) = j by omega] at hj
        exact hx j u hj
theorem splice_bytes {r cs : List Value} {off : Nat} (h1 : ∀ u ∈ r, ∃ n : Int, u = .int .u8 n) (h2 : ∀ u ∈ cs, ∃ n : Int, u = .int .u8 n) : ∀ u ∈ splice r off cs, ∃ n : Int, u = .int .u8 n := fun u hu => by
  unfold splice at hu
  rcases List.mem_append.1 hu with hu | hu
  · exact h1 u (List.mem_of_mem_take hu)
  · rcases List.mem_append.1 hu with hu | hu
    · exact h2 u hu
    · exact h1 u (List.mem_of_mem_drop hu)
/-- A copy into the value at a place. -/
theorem ArrS.write (h : ArrS w ok A size rows) {j : Nat} {r : List Value} {a : Option Addr} {c : Nat} (hr : rows[j]? = some r) (hv : ValAt w A j (.slice a size c)) : ∃ (g o : Nat) (cur : Array Value), a = some ⟨g, o, none⟩ ∧ w.heap[g]? = some (.cells cur 5 (0, 0)) ∧ ok g ∧ o + size ≤ cur.size ∧
    ∀ (off : Nat) (cs : List Value) (w' : World), off + cs.length ≤ size → (∀ u ∈ cs, ∃ n : Int, u = .int .u8 n) → w'.heap[g]? = some (.cells (splice cur.toList (o + off) cs).toArray 5 (0, 0)) → But [g] w w' → ArrS w' ok A size (rows.set j (splice r off cs)) := by
  obtain ⟨hB, ⟨a0, c0, vals, h1, h2, h3, h4, h6, h5⟩, g1, g2, g3⟩ := h
  obtain ⟨g0, o0, n0, c00, s0, hA, hc⟩ := hv
  rw [h1] at hA
  simp only [Option.some.injEq, Obj.cells.injEq, Array.mk.injEq, List.cons.injEq, Value.slice.injEq, and_true] at hA
  obtain ⟨⟨rfl, rfl, rfl⟩, _⟩ := hA
  have hjl : j < vals.length := by have := (List.getElem?_eq_some_iff.1 hr).1; omega
  obtain ⟨v, hvj⟩ : ∃ v, vals[j]? = some v := ⟨_, List.getElem?_eq_getElem hjl⟩
  have hcv := h2.cellAt hvj
  rw [hc] at hcv
  cases hcv
  obtain ⟨ho, hok⟩ := h5 j _ r hvj hr
  have hrl : r.length = size := (g1 r (List.mem_of_getElem? hr)).2
  obtain ⟨g, o, rfl⟩ := ho.addr (by omega)
  obtain ⟨cur, hg⟩ : ∃ cur, w.heap[g]? = some (.cells cur 5 (0, 0)) := ho.tag g rfl
  have hsz : o + size ≤ cur.size := by
    rcases ho with ⟨h, _⟩ | ⟨g', o', cap', cur', h, hg', hc', hm, hs, hx⟩
    · cases h
    · simp only [Value.slice.injEq, Option.some.injEq, Addr.mk.injEq] at h
      obtain ⟨⟨rfl, rfl, _⟩, _, rfl⟩ := h
      rw [hg] at hg'
      simp only [Option.some.injEq, Obj.cells.injEq] at hg'
      obtain ⟨rfl, _, _⟩ := hg'
      omega
  refine ⟨g, o, cur, rfl, hg, hok g rfl, hsz, fun off cs w' hf hcb hw hb => ?_⟩
  have hAg : A ∉ [g] := fun hm => by
    simp only [List.mem_singleton] at hm
    subst hm
    rw [h1] at hg
    simp only [Option.some.injEq, Obj.cells.injEq] at hg
    exact absurd hg.2.1 (by decide)
  have hnew := (OwnQ.spliced (w' := w') (cs := cs) ho hg off (by omega) hw).2
  refine ⟨hB, ⟨_, _, vals, hb.heap h1 hAg, h2.but hb (fun b hb' hm => ?_), by rw [List.length_set]; exact h3, h4, h6, fun i v s hvi hs => ?_⟩, fun s hs => ?_, g2, by rw [List.length_set]; exact g3⟩
  · simp only [List.mem_singleton] at hm
    subst hm
    obtain ⟨cur2, hc2⟩ := h2.tag _ hb'
    rw [hg] at hc2
    simp only [Option.some.injEq, Obj.cells.injEq] at hc2
    exact absurd hc2.2.1 (by decide)
  · by_cases hij : i = j
    · subst hij
      rw [hvj] at hvi
      cases hvi
      rw [List.getElem?_set_self (by omega)] at hs
      cases hs
      exact ⟨hnew, hok⟩
    · rw [List.getElem?_set_ne (Ne.symm hij)] at hs
      obtain ⟨q1, q2⟩ := h5 i v s hvi hs
      refine ⟨q1.but hb (fun b hb' hm => ?_), q2⟩
      simp only [List.mem_singleton] at hm
      subst hm
      exact hij (h6 i j v _ _ hvi hvj hb' rfl)
  · rcases List.mem_or_eq_of_mem_set hs with hs | rfl
    · exact g1 s hs
    · exact ⟨splice_bytes (g1 r (List.mem_of_getElem? hr)).1 hcb, by rw [length_splice _ _ _ (by omega)]; exact hrl⟩
end
end Go.Proofs.YtkgoblpddjpcnaaGreat.M
