/-
  The contracts of hatchwaykit.LentBytes, KeptBytes, OverBytes.
-/
import Derived.Test.YtddeckkcfcodbaaGreatMark
import Derived.Test.YtddeckkcfcodbaaGreatOpenS
import Derived.OwnWalk
import Derived.StillTailTactics
namespace Go.Proofs.YtddeckkcfcodbaaGreat.M
open Go.RowKit
set_option linter.unusedVariables false
set_option linter.unusedSectionVars false
set_option linter.unusedSimpArgs false
noncomputable def marks (k n : Nat) : List Value := (List.range n).map fun i : Nat => Value.int .u8 (mb k i)
theorem marks_len (k n : Nat) : (marks k n).length = n := by simp [marks]
theorem marks_succ (k n : Nat) : marks k (n + 1) = marks k n ++ [.int .u8 (mb k n)] := by simp [marks, List.range_succ]
theorem marks_at {k n i : Nat} (h : i < n) : (marks k n)[i]? = some (.int .u8 (mb k i)) := by simp [marks, h]
theorem marks_bytes (k n : Nat) : IsBytes (marks k n) := fun u hu => by
  obtain ⟨i, _, rfl⟩ := List.mem_map.1 hu
  exact ⟨_, rfl⟩
/-- What was lent: a row of one's own with twelve marks behind. -/
def Lent (w : World) (v : Value) (xs : List Value) : Prop := ∃ g, v = .slice (some ⟨g, 0, none⟩) xs.length (xs.length + 12) ∧ Own w (.slice (some ⟨g, 0, none⟩) (xs.length + 12) (xs.length + 12)) (xs ++ marks 1 12)
theorem Lent.form {w : World} {v : Value} {xs : List Value} (h : Lent w v xs) : ∃ g, v = .slice (some ⟨g, 0, none⟩) xs.length (xs.length + 12) := by
  obtain ⟨g, e, _⟩ := h
  exact ⟨g, e⟩
theorem Lent.sees {w : World} {v : Value} {xs : List Value} (h : Lent w v xs) : Sees w v xs := by
  obtain ⟨g, rfl, h⟩ := h
  rcases h.sees with ⟨h, _⟩ | ⟨ad, c, h1, hc, hx⟩
  · cases h
  · simp only [Value.slice.injEq, Option.some.injEq] at h1
    obtain ⟨rfl, _, _⟩ := h1
    exact .inr ⟨⟨g, 0, none⟩, _, rfl, by omega, fun j u hj => hx j u (by rw [List.getElem?_append_left (List.getElem?_eq_some_iff.1 hj).1]; exact hj)⟩
theorem Lent.but {L : List Nat} {w w' : World} {v : Value} {xs : List Value} (h : Lent w v xs) (hb : But L w w') (hn : ∀ k, v.ownBlock = some k → k ∉ L) : Lent w' v xs := by
  obtain ⟨g, rfl, h⟩ := h
  exact ⟨g, rfl, h.but hb hn⟩
theorem Lent.tag {w : World} {v : Value} {xs : List Value} (h : Lent w v xs) : ∀ k, v.ownBlock = some k → ∃ cur, w.heap[k]? = some (.cells cur 5) ∧ cur.size = xs.length + 12 := fun k hk => by
  obtain ⟨g, rfl, h⟩ := h
  cases hk
  rcases h.2 with ⟨h, _⟩ | ⟨g', cap, cur, h1, _, hg, hc, hm, hs, _⟩
  · cases h
  · simp only [Value.slice.injEq, Option.some.injEq, Addr.mk.injEq, and_true] at h1
    obtain ⟨rfl, _, rfl⟩ := h1
    exact ⟨cur, hg, by rw [hs, Nat.mul_one]⟩
set_option maxRecDepth 100000 in
set_option maxHeartbeats 1000000 in
theorem lent (s : Value) (xs : List Value) (w : World) (hs : Sees w s xs) (hx : IsBytes xs) (hl : xs.length ≤ 140737488351232) :
    Calls Tryz.prog 28 #[s] w fun e w' => ∃ v, e = .returned v ∧ Lent w' v xs ∧ v.ownBlock = some w.heap.size ∧ But [] w w' := by
  obtain ⟨i0, hi, hz0, hz1, hz2⟩ := info_parts (show (Tryz.prog.info? 5).map (fun i => (i.zero, i.size, i.bytes)) = some (some (.int .u8 0), 1, 1) by kernel_rfl)
  obtain ⟨a, c, rfl, hat⟩ := sees_shape hs
  have hnn : a = none → xs.length = 0 ∧ c = 0 := fun e => by
    subst e
    rcases hs with ⟨h, h0⟩ | ⟨ad, c, h, _⟩
    · simp only [Value.slice.injEq] at h
      exact ⟨by rw [h0]; rfl, h.2.2⟩
    · cases h
  have HN := Lib.hid hnn
  have HAT := Lib.hid hat
  have H1 := Lib.hid hx.one
  have hmk : ∀ w, (Instr.makeSlice 22 (.int .i64 0) (.int .i64 ((xs.length : Int) + 12))).run Tryz.prog w = .ok (.slice (some ⟨w.heap.size, 0, none⟩) 0 (xs.length + 12)) (w.alloc (.cells (madeCells #[.int .u8 0] (xs.length + 12)) 5)) := fun w => by
    have h := run_make (P := Tryz.prog) w 22 5 i0 (.int .u8 0) Tryz.underlying22 hi hz0 .i64 .i64 0 ((xs.length : Int) + 12) (by omega) (by omega) (by rw [hz2]; omega) (by omega)
    rw [h, hz1, Nat.mul_one]
    rfl
  have hown0 : (w.alloc (.cells (madeCells #[.int .u8 0] (xs.length + 12)) 5)).ownsRow 0 5 1 (.slice (some ⟨w.heap.size, 0, none⟩) 0 (xs.length + 12)) 0 [] :=
    World.ownsRow_made w _ (xs.length + 12) (Nat.zero_le _) (by unfold maxLen; omega) (by rw [size_madeCells, Nat.mul_one])
  have HO := Lib.hid hown0
  have hb0 : But [] w (w.alloc (.cells (madeCells #[.int .u8 0] (xs.length + 12)) 5)) := (But.refl _ _).alloc _
  have HB := Lib.hid hb0
  clear hs hx hat hnn hown0 hb0
  go_enter Tryz.func28, Tryz.ntmps28
  go_wp2_with (at_builtin; refine wpList_append_fits_any _ rfl _ _ 22 rfl 0 5 i0 1 Tryz.underlying22 hi hz1 w.heap.size 0 (xs.length + 12) [] rfl HO.out a xs.length c xs rfl (by omega) HN.out (fun ad e j u hj => by
      obtain ⟨ad', e', hc⟩ := HAT.out j u hj
      rw [e] at e'
      cases e'
      exact cell_but HB.out hc (by simp)) H1.out (by omega) ?_; intro w1 hown1 hgrow1)
  have HO1 : Hid (Own w1 (.slice (some ⟨w.heap.size, 0, none⟩) (xs.length + 0) (xs.length + 12)) (xs ++ marks 1 0)) := Lib.hid (by
    rw [Nat.zero_add] at hown1
    simpa [Own, marks] using hown1)
  have HB1 : Hid (But [] w w1) := Lib.hid (HB.out.grown hgrow1 (fun k hk => .inr (by cases hk; exact Nat.le_refl _)))
  clear hown1 hgrow1 HO HB HAT HN H1
  go_loopw [3, 4] (fun o i wr => ∃ k : Nat, k ≤ 12 ∧ i = .int .i64 k ∧ o = .slice (some ⟨w.heap.size, 0, none⟩) (xs.length + k) (xs.length + 12) ∧ Own wr o (xs ++ marks 1 k) ∧ But [] w wr) (fun _ i _ => 12 - (intOf i).toNat)
  case atStart => exact ⟨0, by omega, rfl, by simp, HO1.out, HB1.out⟩
  case round =>
    obtain ⟨k, hk, rfl, rfl, ho, hb⟩ := hrel
    have HO := Lib.hid ho
    have HB := Lib.hid hb
    clear ho hb HO1 HB1
    by_cases hlt : k < 12
    · have hlen : (xs ++ marks 1 k).length = xs.length + k := by rw [List.length_append, marks_len]
      have HL := Lib.hid hlen
      have HOW : Hid ((wr.alloc (.cells #[.int .u8 (mb 1 k)] 5)).ownsRow 0 5 1 (.slice (some ⟨w.heap.size, 0, none⟩) (xs.length + k) (xs.length + 12)) (xs.length + k) (xs ++ marks 1 k)) := Lib.hid (by
        have h := HO.out.but ((But.refl [] wr).alloc (.cells #[.int .u8 (mb 1 k)] 5)) (by simp)
        unfold Own at h
        rw [HL.out] at h
        exact h)
      clear hlen
      go_wp2_with (first | (go_at_call 43; refine (markB _ _ _).mono ?_; rintro e w1 ⟨rfl, rfl⟩) | (at_builtin; refine wpList_append_fits _ rfl _ _ 22 rfl 0 5 i0 1 Tryz.underlying22 hi hz1 w.heap.size (xs.length + k) (xs.length + 12) (xs ++ marks 1 k) rfl HOW.out ⟨wr.heap.size, 0, none⟩ 1 1 [.int .u8 (mb 1 k)] rfl rfl (cell_one_new _ _ _) (by intro u hu; simp at hu; subst hu; rfl) (by omega) ?_; intro w2 hown2 hgrow2))
      have hb2 : But [] w w2 := (HB.out.alloc _).grown hgrow2 (fun k hk => .inr (by cases hk; exact Nat.le_refl _))
      have ho2 : Own w2 (.slice (some ⟨w.heap.size, 0, none⟩) (xs.length + (k + 1)) (xs.length + 12)) (xs ++ marks 1 (k + 1)) := by
        unfold Own
        rw [marks_succ, ← List.append_assoc, List.length_append, HL.out]
        exact hown2
      have HB2 := Lib.hid hb2
      have HO2 := Lib.hid ho2
      clear hb2 ho2 hown2 hgrow2
      go_roundw
      case rel => exact ⟨k + 1, by omega, by go_num, rfl, HO2.out, HB2.out⟩
      case measure => simp [intOf]; omega
    · obtain rfl : k = 12 := by omega
      go_wp2_with fail
      go_ret
      exact ⟨_, rfl, ⟨_, rfl, HO.out⟩, rfl, HB.out⟩
end Go.Proofs.YtddeckkcfcodbaaGreat.M
