/-
  A stack, plain: what a whole write makes of it; what a read tells.
-/
import Derived.Test.YtmaeiifhmngllaaCRead
import Derived.Test.YtmaeiifhmngllaaCellPl
namespace Go.Proofs.Ytmaeiifhmngllaa.M
open Go.RowKit
set_option linter.unusedVariables false
set_option linter.unusedSectionVars false
set_option linter.unusedSimpArgs false
theorem part_k {o j : Nat} : (o + atP o j) / 8 = o / 8 + j := by unfold atP; omega
theorem part_f {o j : Nat} : 8 * (o / 8 + j) + frP o j = o + atP o j := by unfold frP atP; omega
theorem part_f7 (o j : Nat) : frP o j ≤ 7 := by unfold frP; omega
theorem part_fm (o n j : Nat) : frP o j + mnP o n j ≤ 8 := by unfold mnP; have := part_f7 o j; omega
theorem part_at {o : Nat} {bs : List Int} {j i : Nat} (hi : i < mnP o bs.length j) : (partBs o bs.length bs j).getD i 0 = bs.getD (atP o j + i) 0 := by
  unfold partBs
  rw [List.getD_eq_getElem?_getD, List.getElem?_take, if_pos hi, List.getElem?_drop, List.getD_eq_getElem?_getD]
structure WrSpec (S S' : Stk) (o n m j : Nat) (bs : List Int) : Prop where
  inv : Inv S'
  whole : ∀ k, S'.whole k = if o / 8 ≤ k ∧ k < o / 8 + j then (if (S.whole k).k = 0 then S.whole k else c0) else S.whole k
  byte : ∀ a, S'.byte a = if o ≤ a ∧ a < o + m then bs.getD (a - o) 0 else if (o / 8 ≤ a / 8 ∧ a / 8 < o / 8 + j) ∧ (S.whole (a / 8)).k ≠ 0 then 0 else S.byte a
  bit : ∀ a, a < 512 → S'.bit a = (decide (o ≤ a ∧ a < o + m) || S.bit a)
theorem partBs_byte {o n j : Nat} {bs : List Int} (h : ByteL bs) : ByteL (partBs o n bs j) := fun x hx => h x (List.mem_of_mem_drop (List.mem_of_mem_take hx))
theorem wr_spec {S : Stk} (h : Inv S) {o : Nat} {bs : List Int} (hbs : ByteL bs) (hon : o + bs.length ≤ 512) : ∀ j, j ≤ cntP o bs.length → WrSpec S (wrL S o bs (List.range j)) o bs.length (min bs.length (atP o j)) j bs
  | 0, _ => by
    have h0 : atP o 0 = 0 := by unfold atP; omega
    refine ⟨h, fun k => ?_, fun a => ?_, fun a ha => ?_⟩
    · rw [if_neg (by omega)]; rfl
    · rw [if_neg (by omega), if_neg (by omega)]; rfl
    · rw [decide_eq_false (by omega)]; rfl
  | j + 1, hj => by
    have ih := wr_spec h hbs hon j (by omega)
    have hlt : j < cntP o bs.length := by omega
    have hat := cnt_at.1 hlt
    have hnx := at_next hlt
    have hpf := part_f (o := o) (j := j)
    have hpl := part_len (bs := bs) hlt
    have hk64 : o / 8 + j < 64 := by
      have : o + atP o j < 512 := by omega
      have := part_k (o := o) (j := j)
      omega
    have hmin : min bs.length (atP o j) = atP o j := Nat.min_eq_right (Nat.le_of_lt hat)
    rw [hmin] at ih
    rw [← hnx, List.range_succ, wrL_more, part_k]
    obtain ⟨S1, hS1⟩ : ∃ S1, S1 = wrL S o bs (List.range j) := ⟨_, rfl⟩
    rw [← hS1] at ih ⊢
    have hw1 : S1.whole (o / 8 + j) = S.whole (o / 8 + j) := by rw [ih.whole, if_neg (by omega)]
    have hfm : frP o j + (partBs o bs.length bs j).length ≤ 8 := by rw [hpl]; exact part_fm o bs.length j
    refine ⟨put_inv ih.inv hk64 (part_f7 o j) hfm (partBs_byte hbs), fun k => ?_, fun a => ?_, fun a ha => ?_⟩
    · rw [put_whole, hw1]
      by_cases e : k = o / 8 + j
      · subst e
        rw [if_pos rfl, if_pos (show o / 8 ≤ o / 8 + j ∧ o / 8 + j < o / 8 + (j + 1) by omega)]
      · rw [if_neg e, ih.whole]
        by_cases e2 : o / 8 ≤ k ∧ k < o / 8 + j
        · rw [if_pos e2, if_pos (show o / 8 ≤ k ∧ k < o / 8 + (j + 1) by omega)]
        · rw [if_neg e2, if_neg (show ¬ (o / 8 ≤ k ∧ k < o / 8 + (j + 1)) by omega)]
    · rw [put_byte, hpf, hpl, hw1]
      by_cases e : o + atP o j ≤ a ∧ a < o + atP o j + mnP o bs.length j
      · rw [if_pos e, if_pos (show o ≤ a ∧ a < o + (atP o j + mnP o bs.length j) by omega), part_at (by omega)]
        congr 1
        omega
      · rw [if_neg e, ih.byte]
        by_cases e1 : o ≤ a ∧ a < o + atP o j
        · have hf0 : 0 < atP o j → frP o j = 0 := by unfold frP atP; omega
          have hf1 := hf0 (by omega)
          have hak : a / 8 < o / 8 + j := by omega
          rw [if_neg (show ¬ (a / 8 = o / 8 + j ∧ (S.whole (o / 8 + j)).k ≠ 0) from fun x => by have := x.1; omega), if_pos e1, if_pos (show o ≤ a ∧ a < o + (atP o j + mnP o bs.length j) by omega)]
        · rw [if_neg e1, if_neg (show ¬ (o ≤ a ∧ a < o + (atP o j + mnP o bs.length j)) by omega)]
          by_cases e2 : a / 8 = o / 8 + j ∧ (S.whole (o / 8 + j)).k ≠ 0
          · rw [if_pos e2, if_pos (show (o / 8 ≤ a / 8 ∧ a / 8 < o / 8 + (j + 1)) ∧ (S.whole (a / 8)).k ≠ 0 from ⟨by omega, by rw [e2.1]; exact e2.2⟩)]
          · rw [if_neg e2]
            by_cases e3 : (o / 8 ≤ a / 8 ∧ a / 8 < o / 8 + j) ∧ (S.whole (a / 8)).k ≠ 0
            · rw [if_pos e3, if_pos (show (o / 8 ≤ a / 8 ∧ a / 8 < o / 8 + (j + 1)) ∧ (S.whole (a / 8)).k ≠ 0 from ⟨by omega, e3.2⟩)]
            · rw [if_neg e3, if_neg (show ¬ ((o / 8 ≤ a / 8 ∧ a / 8 < o / 8 + (j + 1)) ∧ (S.whole (a / 8)).k ≠ 0) from fun x => ?_)]
              by_cases e4 : a / 8 = o / 8 + j
              · exact e2 ⟨e4, by rw [← e4]; exact x.2⟩
              · exact e3 ⟨by omega, x.2⟩
    · rw [put_bit ih.inv hk64 (part_f7 o j) hfm a ha, hpf, hpl, ih.bit a ha, ← Bool.or_assoc]
      congr 1
      rw [← Bool.decide_or, decide_eq_decide]
      omega
/-- A whole write. -/
theorem wr_all {S : Stk} (h : Inv S) {o : Nat} {bs : List Int} (hbs : ByteL bs) (hon : o + bs.length ≤ 512) : WrSpec S (wrL S o bs (List.range (cntP o bs.length))) o bs.length bs.length (cntP o bs.length) bs := by
  have h1 := wr_spec h hbs hon (cntP o bs.length) (Nat.le_refl _)
  have h2 : bs.length ≤ atP o (cntP o bs.length) := by have h := cnt_at (o := o) (n := bs.length) (j := cntP o bs.length); omega
  rwa [Nat.min_eq_left h2] at h1
theorem okP_iff {S : Stk} (h : Inv S) {o n j : Nat} (hon : o + n ≤ 512) (hj : j < cntP o n) : okP S o n j ↔ ∀ i, atP o j ≤ i → i < atP o j + mnP o n j → S.bit (o + i) = true := by
  have hat := cnt_at.1 hj
  have hpf := part_f (o := o) (j := j)
  have hfm := part_fm o n j
  have hm : mnP o n j ≤ n - atP o j := by unfold mnP; omega
  unfold okP
  rw [part_k]
  have hk64 : o / 8 + j < 64 := by
    have := part_k (o := o) (j := j)
    omega
  rw [and_ok (h.rng _ hk64) (part_f7 o j) hfm]
  constructor
  · intro hq i h1 h2
    have h3 := hq (frP o j + (i - atP o j)) (by omega) (by omega)
    unfold Stk.bit
    rw [show (o + i) / 8 = o / 8 + j by omega, show (o + i) % 8 = frP o j + (i - atP o j) by omega]
    exact h3
  · intro hi q h1 h2
    have h3 := hi (atP o j + (q - frP o j)) (by omega) (by omega)
    unfold Stk.bit at h3
    rwa [show (o + (atP o j + (q - frP o j))) / 8 = o / 8 + j by omega, show (o + (atP o j + (q - frP o j))) % 8 = q by omega] at h3
theorem ok_all {S : Stk} (h : Inv S) {o n : Nat} (hon : o + n ≤ 512) : (∀ j, j < cntP o n → okP S o n j) ↔ ∀ i, i < n → S.bit (o + i) = true := by
  constructor
  · intro hk i hi
    obtain ⟨j, hj, h1, h2⟩ : ∃ j, j < cntP o n ∧ atP o j ≤ i ∧ i < atP o j + mnP o n j := by
      refine ⟨(o + i) / 8 - o / 8, cnt_at.2 ?_, ?_, ?_⟩
      · unfold atP; omega
      · unfold atP; omega
      · unfold mnP frP atP; omega
    exact (okP_iff h hon hj).1 (hk j hj) i h1 h2
  · intro hi j hj
    refine (okP_iff h hon hj).2 (fun i h1 h2 => hi i ?_)
    have hm : mnP o n j ≤ n - atP o j := by unfold mnP; omega
    have := cnt_at.1 hj
    omega
def rowB (S : Stk) (o n : Nat) : List Int := (List.range n).map fun i => S.byte (o + i)
theorem row_upto (S : Stk) (o n : Nat) : ∀ j, j ≤ cntP o n → rowP S o n (List.range j) = rowB S o (min n (atP o j))
  | 0, _ => by
    have h0 : atP o 0 = 0 := by unfold atP; omega
    rw [h0]
    simp [rowP, rowB]
  | j + 1, hj => by
    have hlt : j < cntP o n := by omega
    have hat := cnt_at.1 hlt
    rw [List.range_succ, rowP_more, row_upto S o n j (by omega), ← at_next hlt, Nat.min_eq_right (Nat.le_of_lt hat)]
    unfold rowB partOf
    rw [List.range_add, List.map_append, List.map_map]
    congr 1
    refine List.map_congr_left fun i _ => ?_
    show S.byte (o + atP o j + i) = S.byte (o + (atP o j + i))
    rw [Nat.add_assoc]
theorem row_all (S : Stk) (o n : Nat) : rowP S o n (List.range (cntP o n)) = rowB S o n := by
  have h2 : n ≤ atP o (cntP o n) := by have h := cnt_at (o := o) (n := n) (j := cntP o n); omega
  rw [row_upto S o n _ (Nat.le_refl _), Nat.min_eq_left h2]
theorem rowB_len (S : Stk) (o n : Nat) : (rowB S o n).length = n := by simp [rowB]
theorem rowB_byte {S : Stk} (h : Inv S) {o n : Nat} (hon : o + n ≤ 512) : ByteL (rowB S o n) := fun x hx => by
  unfold rowB at hx
  simp only [List.mem_map, List.mem_range] at hx
  obtain ⟨i, hi, rfl⟩ := hx
  exact h.byt _ (by omega)
/-! ### What the functions tell. -/
def bitsOn (S : Stk) (o n : Nat) : Bool := (List.range n).all fun i => S.bit (o + i)
theorem bitsOn_iff {S : Stk} {o n : Nat} : bitsOn S o n = true ↔ ∀ i, i < n → S.bit (o + i) = true := by
  unfold bitsOn
  rw [List.all_eq_true]
  exact ⟨fun h i hi => h i (List.mem_range.2 hi), fun h i hi => h i (List.mem_range.1 hi)⟩
end Go.Proofs.Ytmaeiifhmngllaa.M
