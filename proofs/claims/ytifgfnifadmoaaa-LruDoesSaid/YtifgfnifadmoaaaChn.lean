/-
  lru's chain, plain: a ring of links, through its own; a link goes out; a link is put at the end.
-/
import Derived.Test.YtifgfnifadmoaaaChnA
namespace Go.Proofs.Ytifgfnifadmoaaa.M
open Go.RowKit
set_option linter.unusedVariables false
set_option linter.unusedSectionVars false
set_option linter.unusedSimpArgs false
theorem cell_set {w : World} {b o : Nat} (h : Cell1 w b o) (v : Value) (b' o' : Nat) : (w.setCell ⟨b, o, none⟩ v).cell? ⟨b', o', none⟩ = if b' = b ∧ o' = o then some v else w.cell? ⟨b', o', none⟩ := by
  obtain ⟨C, T, h1, h2⟩ := h
  by_cases e : b' = b
  · subst e
    rw [cl_of (heap_setC h1), cl_of h1]
    by_cases e2 : o' = o
    · subst e2
      rw [if_pos ⟨rfl, rfl⟩]
      simp [h2]
    · rw [if_neg (fun x => e2 x.2)]
      simp [Array.getElem?_setIfInBounds_ne (Ne.symm e2)]
  · rw [if_neg (fun x => e x.1)]
    unfold World.cell?
    rw [heap_setN (Ne.symm e)]
/-- The nodes: the ring's own at 0 and at the end, the links between. -/
def nd (P : Nat) (l : List Nat) (i : Nat) : Nat × Nat := if 1 ≤ i ∧ i ≤ l.length then (l.getD (i - 1) 0, 0) else (P, 4)
theorem nd_zero (P : Nat) (l : List Nat) : nd P l 0 = (P, 4) := if_neg (by omega)
theorem nd_last (P : Nat) (l : List Nat) : nd P l (l.length + 1) = (P, 4) := if_neg (by omega)
theorem nd_in {P : Nat} {l : List Nat} {i : Nat} (h : i < l.length) : nd P l (i + 1) = (l.getD i 0, 0) := by
  unfold nd
  rw [if_pos (by omega)]
  rfl
theorem getD_mem {l : List Nat} {i : Nat} (h : i < l.length) : l.getD i 0 ∈ l := by
  rw [List.getD_eq_getElem?_getD, List.getElem?_eq_getElem h]
  exact List.getElem_mem h
theorem getD_inj {l : List Nat} (hn : l.Nodup) {i j : Nat} (hi : i < l.length) (hj : j < l.length) (h : l.getD i 0 = l.getD j 0) : i = j := by
  rw [List.getD_eq_getElem?_getD, List.getD_eq_getElem?_getD, List.getElem?_eq_getElem hi, List.getElem?_eq_getElem hj] at h
  exact (List.getElem_inj hn).1 (by simpa using h)
theorem nd_inj {P : Nat} {l : List Nat} (hn : (P :: l).Nodup) {i j : Nat} (hi : i ≤ l.length) (hj : j ≤ l.length) (h : (nd P l i).1 = (nd P l j).1) : i = j := by
  rw [List.nodup_cons] at hn
  unfold nd at h
  by_cases h1 : 1 ≤ i ∧ i ≤ l.length
  · rw [if_pos h1] at h
    by_cases h2 : 1 ≤ j ∧ j ≤ l.length
    · rw [if_pos h2] at h
      have := getD_inj hn.2 (by omega) (by omega) h
      omega
    · rw [if_neg h2] at h
      exact absurd (show P ∈ l from (show l.getD (i - 1) 0 = P from h) ▸ getD_mem (by omega)) hn.1
  · rw [if_neg h1] at h
    by_cases h2 : 1 ≤ j ∧ j ≤ l.length
    · rw [if_pos h2] at h
      exact absurd (show P ∈ l from (show l.getD (j - 1) 0 = P from h.symm) ▸ getD_mem (by omega)) hn.1
    · omega
theorem nd_off {P : Nat} {l : List Nat} (hn : (P :: l).Nodup) {i j : Nat} (h : (nd P l i).1 = (nd P l j).1) : (nd P l i).2 = (nd P l j).2 := by
  rw [List.nodup_cons] at hn
  unfold nd at h ⊢
  by_cases h1 : 1 ≤ i ∧ i ≤ l.length
  · rw [if_pos h1] at h ⊢
    by_cases h2 : 1 ≤ j ∧ j ≤ l.length
    · rw [if_pos h2]
    · rw [if_neg h2] at h
      exact absurd (show P ∈ l from (show l.getD (i - 1) 0 = P from h) ▸ getD_mem (by omega)) hn.1
  · rw [if_neg h1] at h ⊢
    by_cases h2 : 1 ≤ j ∧ j ≤ l.length
    · rw [if_pos h2] at h
      exact absurd (show P ∈ l from (show l.getD (j - 1) 0 = P from h.symm) ▸ getD_mem (by omega)) hn.1
    · rw [if_neg h2]
def ptr (x : Nat × Nat) : Value := .pointer (some ⟨x.1, x.2, none⟩)
structure Chain (w : World) (P : Nat) (l : List Nat) : Prop where
  nodup : (P :: l).Nodup
  cells : ∀ i, i ≤ l.length → Cell1 w (nd P l i).1 ((nd P l i).2 + 2) ∧ Cell1 w (nd P l i).1 ((nd P l i).2 + 3)
  next : ∀ i, i ≤ l.length → w.cell? ⟨(nd P l i).1, (nd P l i).2 + 3, none⟩ = some (ptr (nd P l (i + 1)))
  prev : ∀ i, i ≤ l.length → w.cell? ⟨(nd P l (i + 1)).1, (nd P l (i + 1)).2 + 2, none⟩ = some (ptr (nd P l i))
theorem nd_top (P : Nat) (l : List Nat) {i : Nat} (h : i ≤ l.length + 1) : ∃ j, j ≤ l.length ∧ nd P l i = nd P l j := by
  by_cases e : i = l.length + 1
  · subst e
    exact ⟨0, by omega, by rw [nd_last, nd_zero]⟩
  · exact ⟨i, by omega, rfl⟩
theorem Chain.cells' {w : World} {P : Nat} {l : List Nat} (h : Chain w P l) {i : Nat} (hi : i ≤ l.length + 1) : Cell1 w (nd P l i).1 ((nd P l i).2 + 2) ∧ Cell1 w (nd P l i).1 ((nd P l i).2 + 3) := by
  obtain ⟨j, hj, e⟩ := nd_top P l hi
  rw [e]
  exact h.cells j hj
theorem Chain.but {w w' : World} {P : Nat} {l : List Nat} {L : List Nat} (h : Chain w P l) (hb : But L w w') (hP : P ∉ L) (hl : ∀ x ∈ l, x ∉ L) : Chain w' P l := by
  have hn : ∀ i, (nd P l i).1 ∉ L := fun i => by
    unfold nd
    split
    · exact hl _ (getD_mem (by omega))
    · exact hP
  have hc : ∀ b o, b ∉ L → Cell1 w b o → Cell1 w' b o := fun b o hb' ⟨C, T, h1, h2⟩ => ⟨C, T, hb.heap h1 hb', h2⟩
  exact ⟨h.nodup, fun i hi => ⟨hc _ _ (hn i) (h.cells i hi).1, hc _ _ (hn i) (h.cells i hi).2⟩, fun i hi => cell_but hb (h.next i hi) (hn i), fun i hi => cell_but hb (h.prev i hi) (hn (i + 1))⟩
theorem nd_erase (P : Nat) (l : List Nat) {k i : Nat} (hk : k < l.length) (hi : i ≤ l.length) : nd P (l.eraseIdx k) i = nd P l (if i ≤ k then i else i + 1) := by
  have hlen : (l.eraseIdx k).length = l.length - 1 := by rw [List.length_eraseIdx]; simp [hk]
  unfold nd
  rw [hlen]
  by_cases h0 : i = 0
  · subst h0
    rw [if_pos (Nat.zero_le k), if_neg (by omega), if_neg (by omega)]
  · by_cases h1 : i ≤ k
    · rw [if_pos (by omega), if_pos h1, if_pos (by omega), List.getD_eq_getElem?_getD, List.getElem?_eraseIdx, if_pos (by omega), List.getD_eq_getElem?_getD]
    · rw [if_neg h1]
      by_cases h2 : i ≤ l.length - 1
      · rw [if_pos (by omega), if_pos (by omega), List.getD_eq_getElem?_getD, List.getElem?_eraseIdx, if_neg (by omega), List.getD_eq_getElem?_getD]
        congr 3
        omega
      · rw [if_neg (by omega), if_neg (by omega)]
/-- A link goes out. -/
theorem Chain.erase {w : World} {P : Nat} {l : List Nat} (h : Chain w P l) {k : Nat} (hk : k < l.length) :
    Chain (two w (nd P l k).1 ((nd P l k).2 + 3) (ptr (nd P l (k + 2))) (nd P l (k + 2)).1 ((nd P l (k + 2)).2 + 2) (ptr (nd P l k))).drew P (l.eraseIdx k) := by
  have hlen : (l.eraseIdx k).length = l.length - 1 := by rw [List.length_eraseIdx]; simp [hk]
  have c1 := (h.cells' (i := k) (by omega)).2
  have c2 := (h.cells' (i := k + 2) (by omega)).1
  have c2' := c2.set (nd P l k).1 ((nd P l k).2 + 3) (ptr (nd P l (k + 2)))
  have hcell : ∀ b o, (two w (nd P l k).1 ((nd P l k).2 + 3) (ptr (nd P l (k + 2))) (nd P l (k + 2)).1 ((nd P l (k + 2)).2 + 2) (ptr (nd P l k))).cell? ⟨b, o, none⟩ = if b = (nd P l (k + 2)).1 ∧ o = (nd P l (k + 2)).2 + 2 then some (ptr (nd P l k)) else if b = (nd P l k).1 ∧ o = (nd P l k).2 + 3 then some (ptr (nd P l (k + 2))) else w.cell? ⟨b, o, none⟩ := fun b o => by
    unfold two
    rw [cell_set c2', cell_set c1]
  have hset : ∀ b o, Cell1 w b o → Cell1 (two w (nd P l k).1 ((nd P l k).2 + 3) (ptr (nd P l (k + 2))) (nd P l (k + 2)).1 ((nd P l (k + 2)).2 + 2) (ptr (nd P l k))).drew b o := fun b o hc => (hc.set _ _ _).set _ _ _
  refine ⟨?_, fun i hi => ?_, fun i hi => ?_, fun i hi => ?_⟩
  · have := h.nodup
    rw [List.nodup_cons] at this ⊢
    exact ⟨fun hm => this.1 (List.mem_of_mem_eraseIdx hm), this.2.eraseIdx k⟩
  · rw [hlen] at hi
    rw [nd_erase P l hk (by omega)]
    have := h.cells' (i := if i ≤ k then i else i + 1) (by split <;> omega)
    exact ⟨hset _ _ this.1, hset _ _ this.2⟩
  · rw [hlen] at hi
    show (two w _ _ _ _ _ _).cell? _ = _
    rw [nd_erase P l hk (by omega), nd_erase P l hk (by omega), hcell]
    have hne : ∀ i j, (nd P l i).1 = (nd P l j).1 ∧ (nd P l i).2 + 3 = (nd P l j).2 + 2 → False := fun i j ⟨e1, e2⟩ => by
      have := nd_off h.nodup e1
      omega
    rw [if_neg (fun x => hne _ _ x)]
    by_cases e1 : i ≤ k
    · rw [if_pos e1]
      by_cases e2 : i = k
      · subst e2
        rw [if_pos ⟨rfl, rfl⟩, if_neg (by omega)]
      · rw [if_neg (fun x => e2 (nd_inj h.nodup (by omega) (by omega) x.1)), if_pos (by omega)]
        exact h.next i (by omega)
    · rw [if_neg e1, if_neg (show ¬ i + 1 ≤ k by omega), if_neg (fun x => by have := nd_inj h.nodup (i := i + 1) (j := k) (by omega) (by omega) x.1; omega)]
      exact h.next (i + 1) (by omega)
  · rw [hlen] at hi
    show (two w _ _ _ _ _ _).cell? _ = _
    rw [nd_erase P l hk (by omega), nd_erase P l hk (by omega), hcell]
    have hne : ∀ i j, (nd P l i).1 = (nd P l j).1 ∧ (nd P l i).2 + 2 = (nd P l j).2 + 3 → False := fun i j ⟨e1, e2⟩ => by
      have := nd_off h.nodup e1
      omega
    by_cases e1 : i + 1 ≤ k
    · rw [if_pos e1, if_pos (show i ≤ k by omega), if_neg ?_, if_neg (fun x => hne _ _ x)]
      · exact h.prev i (by omega)
      · rintro ⟨x1, _⟩
        obtain ⟨j, hj, e⟩ := nd_top P l (i := k + 2) (by omega)
        rw [e] at x1
        have h3 := nd_inj h.nodup (by omega) hj x1
        by_cases e4 : k + 2 = l.length + 1
        · rw [e4, nd_last] at e
          have := nd_inj h.nodup (i := 0) (j := j) (by omega) hj (by rw [nd_zero, ← e])
          omega
        · have := nd_inj h.nodup (i := k + 2) (j := j) (by omega) hj (by rw [e])
          omega
    · rw [if_neg e1]
      by_cases e2 : i = k
      · subst e2
        rw [if_pos ⟨rfl, rfl⟩, if_pos (Nat.le_refl _)]
      · rw [if_neg (show ¬ i ≤ k by omega), if_neg ?_, if_neg (fun x => hne _ _ x)]
        · exact h.prev (i + 1) (by omega)
        · rintro ⟨x1, _⟩
          obtain ⟨j, hj, e⟩ := nd_top P l (i := i + 2) (by omega)
          have x2 : (nd P l (k + 2)).1 = (nd P l j).1 := by rw [← x1]; rw [show i + 1 + 1 = i + 2 by omega, e]
          have h3 := nd_inj h.nodup (i := k + 2) (by omega) hj x2
          by_cases e4 : i + 2 = l.length + 1
          · rw [e4, nd_last] at e
            have := nd_inj h.nodup (i := 0) (j := j) (by omega) hj (by rw [nd_zero, ← e])
            omega
          · have := nd_inj h.nodup (i := i + 2) (j := j) (by omega) hj (by rw [e])
            omega
theorem nd_snoc (P : Nat) (l : List Nat) (x : Nat) {i : Nat} (hi : i ≤ l.length) : nd P (l ++ [x]) i = nd P l i := by
  unfold nd
  rw [List.length_append, List.length_singleton]
  by_cases h : 1 ≤ i ∧ i ≤ l.length
  · rw [if_pos h, if_pos (by omega), List.getD_eq_getElem?_getD, List.getElem?_append_left (by omega), List.getD_eq_getElem?_getD]
  · rw [if_neg h, if_neg (by omega)]
theorem nd_snoc_x (P : Nat) (l : List Nat) (x : Nat) : nd P (l ++ [x]) (l.length + 1) = (x, 0) := by
  rw [nd_in (by simp), List.getD_eq_getElem?_getD, List.getElem?_append_right (Nat.le_refl _), Nat.sub_self]
  rfl
theorem nd_snoc_top (P : Nat) (l : List Nat) (x : Nat) : nd P (l ++ [x]) (l.length + 2) = (P, 4) := by
  have := nd_last P (l ++ [x])
  rwa [List.length_append, List.length_singleton] at this
/-- The world behind put. -/
def putW (w : World) (P : Nat) (l : List Nat) (x : Nat) : World := (two (two w x 2 (ptr (nd P l l.length)) x 3 (ptr (P, 4))) (nd P l l.length).1 ((nd P l l.length).2 + 3) (ptr (x, 0)) P (4 + 2) (ptr (x, 0))).drew.drew
set_option maxHeartbeats 1000000 in
theorem Chain.push {w : World} {P : Nat} {l : List Nat} {x : Nat} (h : Chain w P l) (hx : x ∉ P :: l) (h2 : Cell1 w x 2) (h3 : Cell1 w x 3) : Chain (putW w P l x) P (l ++ [x]) := by
  have hxP : x ≠ P := fun e => hx (by rw [e]; exact List.mem_cons_self)
  have hxl : x ∉ l := fun e => hx (List.mem_cons_of_mem _ e)
  have hxn : ∀ i, (nd P l i).1 ≠ x := fun i => by
    unfold nd
    split
    · exact fun e => hxl (by rw [← (show l.getD (i - 1) 0 = x from e)]; exact getD_mem (by omega))
    · exact fun e => hxP e.symm
  have c3 := h3.set x 2 (ptr (nd P l l.length))
  have c4 := ((h.cells' (i := l.length) (by omega)).2.set x 2 (ptr (nd P l l.length))).set x 3 (ptr (P, 4))
  have c5 : Cell1 w P (4 + 2) := by have := (h.cells' (i := 0) (by omega)).1; rwa [nd_zero] at this
  have c5' := ((c5.set x 2 (ptr (nd P l l.length))).set x 3 (ptr (P, 4))).set (nd P l l.length).1 ((nd P l l.length).2 + 3) (ptr (x, 0))
  have hcell : ∀ b o, (putW w P l x).cell? ⟨b, o, none⟩ = if b = P ∧ o = 4 + 2 then some (ptr (x, 0)) else if b = (nd P l l.length).1 ∧ o = (nd P l l.length).2 + 3 then some (ptr (x, 0)) else if b = x ∧ o = 3 then some (ptr (P, 4)) else if b = x ∧ o = 2 then some (ptr (nd P l l.length)) else w.cell? ⟨b, o, none⟩ := fun b o => by
    show (two (two w _ _ _ _ _ _) _ _ _ _ _ _).cell? _ = _
    unfold two
    rw [cell_set c5', cell_set c4, cell_set c3, cell_set h2]
  have hset : ∀ b o, Cell1 w b o → Cell1 (putW w P l x) b o := fun b o hc => (((hc.set _ _ _).set _ _ _).set _ _ _).set _ _ _
  have hl : (l ++ [x]).length = l.length + 1 := by simp
  refine ⟨?_, fun i hi => ?_, fun i hi => ?_, fun i hi => ?_⟩
  · have := h.nodup
    rw [List.nodup_cons] at this ⊢
    refine ⟨fun hm => ?_, ?_⟩
    · rcases List.mem_append.1 hm with hm | hm
      · exact this.1 hm
      · have hm' : P = x := by simpa using hm
        exact hxP hm'.symm
    · exact List.nodup_append.2 ⟨this.2, by simp, fun a ha c hc e => hxl (by simp at hc; subst hc; exact e ▸ ha)⟩
  · rw [hl] at hi
    by_cases e : i ≤ l.length
    · rw [nd_snoc P l x e]
      exact ⟨hset _ _ (h.cells i e).1, hset _ _ (h.cells i e).2⟩
    · obtain rfl : i = l.length + 1 := by omega
      rw [nd_snoc_x]
      exact ⟨hset _ _ h2, hset _ _ h3⟩
  · rw [hl] at hi
    rw [hcell]
    by_cases e : i ≤ l.length
    · rw [nd_snoc P l x e]
      have n1 : ¬ ((nd P l i).1 = P ∧ (nd P l i).2 + 3 = 4 + 2) := fun ⟨x1, x2⟩ => by
        have := nd_inj h.nodup (i := i) (j := 0) e (by omega) (by rw [nd_zero]; exact x1)
        subst this
        rw [nd_zero] at x2
        simp at x2
      rw [if_neg n1]
      by_cases e2 : i = l.length
      · subst e2
        rw [if_pos ⟨rfl, rfl⟩, nd_snoc_x]
      · rw [if_neg (fun x1 => e2 (nd_inj h.nodup e (Nat.le_refl _) x1.1)), if_neg (fun x1 => hxn i x1.1), if_neg (fun x1 => hxn i x1.1), nd_snoc P l x (by omega)]
        exact h.next i e
    · obtain rfl : i = l.length + 1 := by omega
      rw [nd_snoc_x, nd_snoc_top, if_neg (fun x1 => hxP x1.1), if_neg (fun x1 => hxn _ x1.1.symm), if_pos ⟨rfl, rfl⟩]
  · rw [hl] at hi
    rw [hcell]
    by_cases e : i + 1 ≤ l.length
    · rw [nd_snoc P l x e, nd_snoc P l x (by omega)]
      have n1 : ¬ ((nd P l (i + 1)).1 = P ∧ (nd P l (i + 1)).2 + 2 = 4 + 2) := fun ⟨x1, x2⟩ => by
        have := nd_inj h.nodup (i := i + 1) (j := 0) e (by omega) (by rw [nd_zero]; exact x1)
        omega
      have n2 : ¬ ((nd P l (i + 1)).1 = (nd P l l.length).1 ∧ (nd P l (i + 1)).2 + 2 = (nd P l l.length).2 + 3) := fun ⟨x1, x2⟩ => by
        have := nd_off h.nodup x1
        omega
      rw [if_neg n1, if_neg n2, if_neg (fun x1 => hxn _ x1.1), if_neg (fun x1 => hxn _ x1.1)]
      exact h.prev i (by omega)
    · by_cases e2 : i = l.length
      · subst e2
        rw [nd_snoc_x, nd_snoc P l x (Nat.le_refl _), if_neg (fun x1 => hxP x1.1), if_neg (fun x1 => hxn _ x1.1.symm), if_neg (fun x1 => by have := x1.2; omega), if_pos ⟨rfl, rfl⟩]
      · obtain rfl : i = l.length + 1 := by omega
        rw [show l.length + 1 + 1 = l.length + 2 by omega, nd_snoc_top, nd_snoc_x, if_pos ⟨rfl, rfl⟩]
end Go.Proofs.Ytifgfnifadmoaaa.M
