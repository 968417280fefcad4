/-
  Plain: rows that lie apart are marked, grown, marked again: what holds of them. (For flatBytes.)
-/
import Derived.Test.YtddeckkcfcodbaaGreatKept
import Derived.Test.YtddeckkcfcodbaaGreatOwnQ
namespace Go.Proofs.YtddeckkcfcodbaaGreat.M
open Go.RowKit
set_option linter.unusedVariables false
set_option linter.unusedSectionVars false
set_option linter.unusedSimpArgs false
def RowsAt (w : World) (vals : List Value) (f : Nat → List Value) : Prop := ∀ (k : Nat) (v : Value), vals[k]? = some v → OwnQ w 5 v (f k)
def ApartV (vals : List Value) : Prop := ∀ (i j : Nat) (u v : Value) (b : Nat), vals[i]? = some u → vals[j]? = some v → u.ownBlock = some b → v.ownBlock = some b → i = j
def blks (vals : List Value) : List Nat := vals.flatMap fun v => v.ownBlock.toList
theorem mem_blks {vals : List Value} {k : Nat} {v : Value} {b : Nat} (h : vals[k]? = some v) (hb : v.ownBlock = some b) : b ∈ blks vals := List.mem_flatMap.2 ⟨v, List.mem_of_getElem? h, by rw [hb]; simp⟩
theorem of_blks {vals : List Value} {b : Nat} (h : b ∈ blks vals) : ∃ (k : Nat) (v : Value), vals[k]? = some v ∧ v.ownBlock = some b := by
  obtain ⟨v, hv, hb⟩ := List.mem_flatMap.1 h
  obtain ⟨k, hk⟩ := List.getElem?_of_mem hv
  exact ⟨k, v, hk, by simpa using hb⟩
theorem marks_take {k n m : Nat} (h : m ≤ n) : (marks k n).take m = marks k m := by
  simp [marks, ← List.map_take, List.take_range, Nat.min_eq_left h]
/-- All rows are marked; the list of them is as it was. -/
structure FS (w wr : World) (vals : List Value) (n : Nat → Nat) (ls : Value) : Prop where
  rows : RowsAt wr vals (fun j => marks j (n j))
  lsq : OwnQ wr 22 ls vals
  but : But (blks vals) w wr
theorem rows_set {w w' : World} {vals : List Value} {f : Nat → List Value} {k : Nat} {v : Value} {xs : List Value} (h : RowsAt w vals f) (hA : ApartV vals) (hv : vals[k]? = some v) (hb : But v.ownBlock.toList w w') (ho : OwnQ w' 5 v xs) :
    RowsAt w' vals (fun j => if j = k then xs else f j) := fun j u hu => by
  by_cases hj : j = k
  · subst hj
    rw [hv] at hu
    cases hu
    show OwnQ w' 5 _ (if j = j then xs else f j)
    rw [if_pos rfl]
    exact ho
  · show OwnQ w' 5 u (if j = k then xs else f j)
    rw [if_neg hj]
    exact (h j u hu).but hb (fun b hbu hm => hj (hA j k u v b hu hv hbu (by simpa using hm)))
theorem ls_keep {w w' : World} {vals : List Value} {f : Nat → List Value} {ls : Value} {k : Nat} {v : Value} (h : RowsAt w vals f) (hl : OwnQ w 22 ls vals) (hv : vals[k]? = some v) (hb : But v.ownBlock.toList w w') : OwnQ w' 22 ls vals :=
  hl.but hb (fun b hbl hm => hl.ne (h k v hv) (by decide) hbl (by simpa using hm))
theorem but_row {w w1 w2 : World} {vals : List Value} {k : Nat} {v : Value} (h : But (blks vals) w w1) (hv : vals[k]? = some v) (hb : But v.ownBlock.toList w1 w2) : But (blks vals) w w2 :=
  h.trans hb (fun b hm => .inl (mem_blks hv (by simpa using hm)))
theorem FS.new {w wr w' : World} {vals : List Value} {n : Nat → Nat} {ls : Value} (h : FS w wr vals n ls) (hb : But [] wr w') : FS w w' vals n ls :=
  ⟨fun k v hv => (h.rows k v hv).but hb (by simp), h.lsq.but hb (by simp), h.but.trans hb (by simp)⟩
theorem FS.old {w wr w' : World} {vals : List Value} {n : Nat → Nat} {ls : Value} {L : List Nat} (h : FS w wr vals n ls) (hb : But L wr w') (hL : ∀ x ∈ L, w.heap.size ≤ x) (hv : ∀ x ∈ L, x ∉ blks vals) (hl : ∀ b, ls.ownBlock = some b → b ∉ L) : FS w w' vals n ls :=
  ⟨fun k v hk => (h.rows k v hk).but hb (fun b hbv hm => hv b hm (mem_blks hk hbv)), h.lsq.but hb hl, h.but.trans hb (fun x hx => .inr (hL x hx))⟩
theorem FS.row {w wr w' : World} {vals : List Value} {n : Nat → Nat} {ls : Value} {k : Nat} {v : Value} (h : FS w wr vals n ls) (hA : ApartV vals) (hv : vals[k]? = some v) (hb : But v.ownBlock.toList wr w') (ho : OwnQ w' 5 v (marks k (n k))) : FS w w' vals n ls := by
  refine ⟨fun j u hu => ?_, ls_keep h.rows h.lsq hv hb, but_row h.but hv hb⟩
  have := rows_set h.rows hA hv hb ho j u hu
  by_cases hj : j = k
  · subst hj; simpa using this
  · simpa [hj] using this
/-- What was grown: of a row, or laid anew. -/
def GOk (B : Nat) (wr : World) (G v : Value) (xs : List Value) : Prop := OwnQ wr 5 G xs ∧ (G.ownBlock = v.ownBlock ∨ ∃ b, G.ownBlock = some b ∧ B ≤ b)
theorem GOk.new {B : Nat} {wr w' : World} {G v : Value} {xs : List Value} (h : GOk B wr G v xs) (hb : But [] wr w') : GOk B w' G v xs := ⟨h.1.but hb (by simp), h.2⟩
theorem GOk.other {B : Nat} {wr w' : World} {vals : List Value} {j k : Nat} {G u v : Value} {xs : List Value} (h : GOk B wr G u xs) (hA : ApartV vals) (hu : vals[j]? = some u) (hv : vals[k]? = some v) (hjk : j ≠ k) (hlow : ∀ b, v.ownBlock = some b → b < B) (hb : But v.ownBlock.toList wr w') : GOk B w' G u xs := by
  refine ⟨h.1.but hb (fun b hbG hm => ?_), h.2⟩
  have hvb : v.ownBlock = some b := by simpa using hm
  rcases h.2 with e | ⟨b', e, hB⟩
  · exact hjk (hA j k u v b hu hv (e ▸ hbG) hvb)
  · rw [e] at hbG
    cases hbG
    have := hlow b hvb
    omega
/-- Behind an append to what is grown of row k. H: where all that lay there ahead of it ends. -/
def Growing (H : Nat) (wr : World) (k m i : Nat) (v g : Value) : Prop := OwnQ wr 5 g (marks k (m + i)) ∧ ((∃ a cap, v = .slice a m cap ∧ g = .slice a (m + i) cap) ∨ ∃ b, g.ownBlock = some b ∧ H ≤ b)
theorem growing_start {H : Nat} {wr : World} {k m : Nat} {v : Value} (h : OwnQ wr 5 v (marks k m)) : Growing H wr k m 0 v v := by
  obtain ⟨a, c, e⟩ := h.form
  rw [marks_len] at e
  exact ⟨h, .inl ⟨a, c, e, e⟩⟩
theorem growing_step {H : Nat} {w wr wx w' : World} {vals : List Value} {n : Nat → Nat} {ls gs : Value} {gv : List Value} {k i : Nat} {v g g' : Value}
    (hF : FS w wr vals n ls) (hA : ApartV vals) (hv : vals[k]? = some v) (hlow : ∀ (k : Nat) (v : Value) (b : Nat), vals[k]? = some v → v.ownBlock = some b → b < H) (hls : ∀ b, ls.ownBlock = some b → b < H) (hwH : w.heap.size ≤ H) (hHx : H ≤ wx.heap.size)
    (hG : Growing H wr k (n k) i v g) (hx : But [] wr wx) (hap : Appended wx w' 5 g g' (marks k (n k + i)) [.int .u8 (mb k ((n k : Int) + i))]) :
    FS w w' vals n ls ∧ Growing H w' k (n k) (i + 1) v g' ∧ But ((if g.ownBlock = v.ownBlock then v.ownBlock else g.ownBlock).toList) wr w' := by
  obtain ⟨ho, hr⟩ := hG
  obtain ⟨hq, hc⟩ := hap
  have hm : marks k (n k + i) ++ [.int .u8 (mb k ((n k : Int) + i))] = marks k (n k + (i + 1)) := by
    rw [← Nat.add_assoc, marks_succ]
    congr 3
  rw [hm] at hq
  have hFx := hF.new hx
  have hvx := hFx.rows k v hv
  rcases hc with ⟨a, cap, e1, e2, ho2, hb⟩ | ⟨hnew, hb⟩
  · rw [marks_len] at e1
    simp only [marks_len, List.length_cons, List.length_nil, Nat.zero_add] at e2
    rcases hr with ⟨a', cap', e3, e4⟩ | ⟨b, e3, e4⟩
    · rw [e1] at e4
      simp only [Value.slice.injEq, true_and] at e4
      obtain ⟨rfl, rfl⟩ := e4
      have hown : g.ownBlock = v.ownBlock := by rw [e1, e3]; cases a <;> rfl
      rw [hown] at hb
      have hv' : OwnQ w' 5 v (marks k (n k)) := by
        have h1 := hq
        rw [e2] at h1
        have h2 := h1.pre (p := n k) (by rw [marks_len]; omega)
        rw [marks_take (by omega)] at h2
        rw [e3]
        exact h2
      refine ⟨hFx.row hA hv hb hv', ⟨hq, .inl ⟨a, cap, e3, by rw [e2]; rfl⟩⟩, ?_⟩
      rw [if_pos hown]
      exact (hx.mono (by simp)).trans hb (fun x h => .inl h)
    · have hne : ∀ (k' : Nat) (v' : Value) (b' : Nat), vals[k']? = some v' → v'.ownBlock = some b' → b' ≠ b := fun k' v' b' h1 h2 e => by
        have := hlow k' v' b' h1 h2
        omega
      have hgv : g.ownBlock ≠ v.ownBlock := fun e => by
        rw [e3] at e
        exact hne k v b hv e.symm rfl
      rw [if_neg hgv]
      refine ⟨hFx.old hb (fun x hxm => ?_) (fun x hxm hbl => ?_) (fun b' hb' hm' => ?_), ⟨hq, .inr ⟨b, ?_, e4⟩⟩, (hx.mono (by simp)).trans hb (fun x h => .inl h)⟩
      · rw [e3] at hxm; simp at hxm; omega
      · rw [e3] at hxm
        simp at hxm
        obtain ⟨k', v', h1, h2⟩ := of_blks hbl
        exact hne k' v' x h1 h2 hxm
      · rw [e3] at hm'
        simp at hm'
        have := hls b' hb'
        omega
      · rw [e2]
        rw [e1] at e3
        cases a with
        | none => cases e3
        | some a => exact e3
  · refine ⟨hFx.new hb, ⟨hq, .inr ⟨_, hnew, hHx⟩⟩, (hx.trans hb (by simp)).mono (by simp)⟩
end Go.Proofs.YtddeckkcfcodbaaGreat.M
