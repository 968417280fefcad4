/-
  'QueueLives': plain: what stands at the head of a round, and behind each deed. Each block has a colour: 1 the queue's, 2 the reference's, 3 what was told, 4 what was lent.
-/
import Derived.Test.YtdobileefcidjaaRefQueD
import Derived.Test.YtdobileefcidjaaApart
namespace Go.Proofs.Ytdobileefcidjaa.M
open Go.RowKit Go.Shelf
set_option linter.unusedVariables false
set_option linter.unusedSectionVars false
set_option linter.unusedSimpArgs false
def dye (col : Nat → Nat) (n c : Nat) : Nat → Nat := fun b => if b < n then col b else c
theorem dye_old {col : Nat → Nat} {n c b : Nat} (h : b < n) : dye col n c b = col b := if_pos h
theorem dye_new {col : Nat → Nat} {n c b : Nat} (h : n ≤ b) : dye col n c b = c := if_neg (by omega)
/-- What stands at the head of a round. -/
structure QLives (w : World) (base Q X : Nat) (stack : Bool) (val ent : Int) (col : Nat → Nat) (told : Value) (wr : World) (rq rr : List (List Value)) (tv : List Value) : Prop where
  hbase : w.heap.size ≤ base
  low : ∀ b, b < base → col b = 0
  queue : QueueS wr (fun b => col b = 1) Q stack val ent rq
  ref : RefQ wr (fun b => col b = 2) X (kindOf stack) val ent rr
  toldq : OwnQ wr 36 told tv
  toldcol : ∀ b, told.ownBlock = some b → col b = 3
  rows : ∀ (j : Nat) (v : Value), tv[j]? = some v → ∃ xs, OwnQ wr 5 v xs ∧ xs.length ≤ 65536 ∧ ∀ b, v.ownBlock = some b → col b = 3
  apart : ApartV tv
  but : But [] w wr
section
variable {w wr w' : World} {base Q X : Nat} {stack : Bool} {val ent : Int} {col : Nat → Nat} {told : Value} {rq rr rq' rr' : List (List Value)} {tv : List Value}
/-- New blocks are to have a colour. -/
theorem QLives.dyed (h : QLives w base Q X stack val ent col told wr rq rr tv) (hz : base ≤ wr.heap.size) (c : Nat) : QLives w base Q X stack val ent (dye col wr.heap.size c) told wr rq rr tv where
  hbase := h.hbase
  low := fun b hb => by rw [dye_old (by omega)]; exact h.low b hb
  queue := h.queue.also fun b hb hk => by rw [dye_old hb]; exact hk
  ref := h.ref.also fun b hb hk => by rw [dye_old hb]; exact hk
  toldq := h.toldq
  toldcol := fun b hb => by rw [dye_old (h.toldq.lt hb)]; exact h.toldcol b hb
  rows := fun j v hv => by
    obtain ⟨xs, h1, h2, h3⟩ := h.rows j v hv
    exact ⟨xs, h1, h2, fun b hb => by rw [dye_old (h1.lt hb)]; exact h3 b hb⟩
  apart := h.apart
  but := h.but
/-- A turn of blocks of one colour. -/
theorem QLives.turn (h : QLives w base Q X stack val ent col told wr rq rr tv) {L : List Nat} {c : Nat} (hb : But L wr w') (hL : ∀ x ∈ L, col x = c) (hc : c ≠ 0) (hc3 : c ≠ 3) (hq : c ≠ 1 → rq' = rq) (hr : c ≠ 2 → rr' = rr) (hQ : c = 1 → QueueS w' (fun b => col b = 1) Q stack val ent rq') (hR : c = 2 → RefQ w' (fun b => col b = 2) X (kindOf stack) val ent rr') : QLives w base Q X stack val ent col told w' rq' rr' tv where
  hbase := h.hbase
  low := h.low
  queue := by
    by_cases e : c = 1
    · exact hQ e
    · rw [hq e]; exact h.queue.keep hb fun x hx hk => e ((hL x hx).symm.trans hk)
  ref := by
    by_cases e : c = 2
    · exact hR e
    · rw [hr e]; exact h.ref.keep hb fun x hx hk => e ((hL x hx).symm.trans hk)
  toldq := h.toldq.but hb fun b hb' hm => hc3 ((hL b hm).symm.trans (h.toldcol b hb'))
  toldcol := h.toldcol
  rows := fun j v hv => by
    obtain ⟨xs, h1, h2, h3⟩ := h.rows j v hv
    exact ⟨xs, h1.but hb fun b hb' hm => hc3 ((hL b hm).symm.trans (h3 b hb')), h2, h3⟩
  apart := h.apart
  but := h.but.trans hb fun x hx => .inr (by
    have h1 := h.hbase
    by_cases hxb : x < base
    · exact absurd ((hL x hx).symm.trans (h.low x hxb)) hc
    · omega)
theorem QLives.queueTurn (h : QLives w base Q X stack val ent col told wr rq rr tv) {L : List Nat} (hb : But L wr w') (hL : ∀ x ∈ L, col x = 1) (hQ : QueueS w' (fun b => col b = 1) Q stack val ent rq') : QLives w base Q X stack val ent col told w' rq' rr tv :=
  h.turn hb hL (by decide) (by decide) (fun h => absurd rfl h) (fun _ => rfl) (fun _ => hQ) (fun h => by cases h)
theorem QLives.refTurn (h : QLives w base Q X stack val ent col told wr rq rr tv) {L : List Nat} (hb : But L wr w') (hL : ∀ x ∈ L, col x = 2) (hR : RefQ w' (fun b => col b = 2) X (kindOf stack) val ent rr') : QLives w base Q X stack val ent col told w' rq rr' tv :=
  h.turn hb hL (by decide) (by decide) (fun _ => rfl) (fun h => absurd rfl h) (fun h => by cases h) (fun _ => hR)
theorem QLives.lentTurn (h : QLives w base Q X stack val ent col told wr rq rr tv) {L : List Nat} (hb : But L wr w') (hL : ∀ x ∈ L, col x = 4) : QLives w base Q X stack val ent col told w' rq rr tv :=
  h.turn hb hL (by decide) (by decide) (fun _ => rfl) (fun _ => rfl) (fun h => by cases h) (fun h => by cases h)
theorem QLives.new (h : QLives w base Q X stack val ent col told wr rq rr tv) (hb : But [] wr w') : QLives w base Q X stack val ent col told w' rq rr tv :=
  h.lentTurn hb (by simp)
/-- Behind an append of one row to what was told. -/
theorem QLives.tell {told' v : Value} {xs : List Value} {o : Obj} (h : QLives w base Q X stack val ent col told wr rq rr tv) (hv : OwnQ wr 5 v xs) (hx : xs.length ≤ 65536) (hvc : ∀ b, v.ownBlock = some b → col b = 3) (hva : ∀ (j : Nat) (u : Value) (b : Nat), tv[j]? = some u → u.ownBlock = some b → v.ownBlock ≠ some b)
    (hnew : ∀ b, wr.heap.size ≤ b → col b = 3) (hap : Appended (wr.alloc o) w' 36 told told' tv [v]) : QLives w base Q X stack val ent col told' w' rq rr (tv ++ [v]) := by
  obtain ⟨hq, hc⟩ := hap
  have hb0 : But [] wr (wr.alloc o) := (But.refl _ _).alloc _
  have hb5 : But told.ownBlock.toList wr w' ∧ ∀ b, told'.ownBlock = some b → col b = 3 := by
    rcases hc with ⟨a2, cap, e1, e2, _, hb⟩ | ⟨hn, hb⟩
    · refine ⟨(hb0.mono (by simp)).trans hb (fun x h => .inl h), fun b hb' => h.toldcol b ?_⟩
      rw [e1]
      rw [e2] at hb'
      exact (own_addr _ _ _ _ _).trans hb'
    · refine ⟨(hb0.trans hb (by simp)).mono (by simp), fun b hb' => hnew b ?_⟩
      rw [hn] at hb'
      cases hb'
      rw [size_alloc]
      omega
  have hL : ∀ x ∈ told.ownBlock.toList, col x = 3 := fun x hx => h.toldcol x (by simpa using hx)
  have hrow : ∀ {u : Value} {ys : List Value}, OwnQ wr 5 u ys → OwnQ w' 5 u ys := fun ho => ho.but hb5.1 (fun b hb hm => ho.ne h.toldq (by decide) hb (by simpa using hm))
  have last : ∀ {j : Nat} {u : Value}, (tv ++ [v])[j]? = some u → tv[j]? = some u ∨ (j = tv.length ∧ u = v) := fun {j u} hu => by
    by_cases hj : j < tv.length
    · rw [List.getElem?_append_left hj] at hu; exact .inl hu
    · rw [List.getElem?_append_right (by omega)] at hu
      cases hjj : j - tv.length with
      | zero => rw [hjj] at hu; simp at hu; exact .inr ⟨by omega, hu.symm⟩
      | succ m => rw [hjj] at hu; simp at hu
  exact {
    hbase := h.hbase
    low := h.low
    queue := h.queue.keep hb5.1 fun x hx hk => by have := hL x hx; omega
    ref := h.ref.keep hb5.1 fun x hx hk => by have := hL x hx; omega
    toldq := hq
    toldcol := hb5.2
    rows := fun j u hu => by
      rcases last hu with hu | ⟨_, rfl⟩
      · obtain ⟨ys, h1, h2⟩ := h.rows j u hu
        exact ⟨ys, hrow h1, h2⟩
      · exact ⟨xs, hrow hv, hx, hvc⟩
    apart := fun i j u u' b hu hu' hbu hbu' => by
      rcases last hu with g | ⟨e1, e2⟩
      · rcases last hu' with g' | ⟨e1', e2'⟩
        · exact h.apart i j u u' b g g' hbu hbu'
        · rw [e2'] at hbu'
          exact absurd hbu' (hva i u b g hbu)
      · rcases last hu' with g' | ⟨e1', e2'⟩
        · rw [e2] at hbu
          exact absurd hbu (hva j u' b g' hbu')
        · rw [e1, e1']
    but := h.but.trans hb5.1 fun x hx => .inr (by
      have h1 := h.hbase
      have h2 := hL x hx
      by_cases hxb : x < base
      · have := h.low x hxb; omega
      · omega) }
/-- What was lent stays. -/
theorem Lent.turn {inn : Value} {xs : List Value} (h : Lent wr inn xs) (hc : ∀ b, inn.ownBlock = some b → col b = 4) {L : List Nat} {c : Nat} (hb : But L wr w') (hL : ∀ x ∈ L, col x = c) (h4 : c ≠ 4) : Lent w' inn xs :=
  h.but hb fun b hb' hm => h4 ((hL b hm).symm.trans (hc b hb'))
theorem QLives.popped {v : Value} (h : QLives w base Q X stack val ent col told wr rq rr tv) (hv : ∀ b, v.ownBlock = some b → wr.heap.size ≤ b) (j : Nat) (u : Value) (b : Nat) (hu : tv[j]? = some u) (hb : u.ownBlock = some b) : v.ownBlock ≠ some b := fun hvb => by
  obtain ⟨xs, h1, _⟩ := h.rows j u hu
  have := h1.lt hb
  have := hv b hvb
  omega
end
end Go.Proofs.Ytdobileefcidjaa.M
