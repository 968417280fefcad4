/-
  'RingLives': plain: what stands at the head of a round, and behind each deed.
-/
import Derived.Test.YtlajffbjkgedhaaRingNews
import Derived.Test.YtlajffbjkgedhaaApart
namespace Go.Proofs.Ytlajffbjkgedhaa.M
open Go.RowKit
set_option linter.unusedVariables false
set_option linter.unusedSectionVars false
set_option linter.unusedSimpArgs false
def okL (base : Nat) (told : Value) (b : Nat) : Prop := base ≤ b ∧ told.ownBlock ≠ some b
theorem used_eq (ls : List Lk) : usedR (ls.map Lk.bs) = used ls := by
  induction ls with
  | nil => rfl
  | cons x ls ih => rw [List.map_cons, usedR_cons, used_cons, ih]
/-- What stands at the head of a round. -/
structure Lives (w : World) (base R X : Nat) (n : Int) (k : Nat) (told : Value) (wr : World) (ls : List Lk) (tv : List Value) : Prop where
  hbase : w.heap.size ≤ base
  ring : RingS wr base R n ls
  fits : used ls ≤ n
  ref : RefS wr (okL base told) X n (ls.map Lk.bs)
  few : ls.length ≤ k
  bytes : ∀ x ∈ ls, IsBytes x.bs ∧ x.bs.length ≤ 65536
  toldq : OwnQ wr 36 told tv
  toldlow : ∀ b, told.ownBlock = some b → base ≤ b
  rows : ∀ (j : Nat) (v : Value), tv[j]? = some v → ∃ xs, OwnQ wr 5 v xs ∧ xs.length ≤ 65536 ∧ ∀ b, v.ownBlock = some b → base ≤ b
  apart : ApartV (tv ++ ls.map Lk.sl)
  tfew : tv.length ≤ k
  but : But [] w wr
theorem Lives.new {w wr w' : World} {base R X : Nat} {n : Int} {k k' : Nat} {told : Value} {ls : List Lk} {tv : List Value} (h : Lives w base R X n k told wr ls tv) (hb : But [] wr w') (hk : k ≤ k') : Lives w base R X n k' told w' ls tv where
  hbase := h.hbase
  ring := h.ring.keep hb
  fits := h.fits
  ref := h.ref.keep hb (by simp)
  few := Nat.le_trans h.few hk
  bytes := h.bytes
  toldq := h.toldq.but hb (by simp)
  toldlow := h.toldlow
  rows := fun j v hv => by
    obtain ⟨xs, h1, h2⟩ := h.rows j v hv
    exact ⟨xs, h1.but hb (by simp), h2⟩
  apart := h.apart
  tfew := Nat.le_trans h.tfew hk
  but := h.but.trans hb (by simp)
/-- All rows' blocks lie there. -/
theorem Lives.lt {w wr : World} {base R X : Nat} {n : Int} {k : Nat} {told : Value} {ls : List Lk} {tv : List Value} (h : Lives w base R X n k told wr ls tv) : ∀ (i : Nat) (v : Value) (b : Nat), (tv ++ ls.map Lk.sl)[i]? = some v → v.ownBlock = some b → b < wr.heap.size := fun i v b hv hb => by
  rcases List.mem_append.1 (List.mem_of_getElem? hv) with hm | hm
  · obtain ⟨j, hj⟩ := List.getElem?_of_mem hm
    obtain ⟨xs, h1, _⟩ := h.rows j v hj
    exact h1.lt hb
  · obtain ⟨x, hx, rfl⟩ := List.mem_map.1 hm
    exact (h.ring.lts x hx).2 b hb
theorem tags_ring {w : World} {base R : Nat} {n : Int} {ls : List Lk} (h : RingS w base R n ls) : ∀ x ∈ R :: ls.map Lk.blk, ∃ cs t, w.heap[x]? = some (.cells cs t) ∧ t ≠ 60 ∧ t ≠ 36 ∧ t ≠ 5 := fun x hx => by
  rcases List.mem_cons.1 hx with rfl | hx
  · obtain ⟨l, h1, _⟩ := h.cell
    exact ⟨_, _, h1, by decide, by decide, by decide⟩
  · obtain ⟨y, hy, rfl⟩ := List.mem_map.1 hx
    obtain ⟨q, h1, _⟩ := h.links.at y hy
    exact ⟨_, _, h1, by decide, by decide, by decide⟩
theorem OwnQ.tagoff {w : World} {e : TypeId} {v : Value} {xs : List Value} (h : OwnQ w e v xs) {x : Nat} {cs : Array Value} {t : TypeId} (hx : w.heap[x]? = some (.cells cs t)) (ht : t ≠ e) : v.ownBlock ≠ some x := fun hb => by
  obtain ⟨cur, hg⟩ := h.tag x hb
  rw [hx] at hg
  simp only [Option.some.injEq, Obj.cells.injEq] at hg
  exact ht hg.2.1
/-- A write into blocks that bear neither rows nor links nor rows' lists. -/
theorem ring_tagoff {w w' : World} {base R : Nat} {n : Int} {ls : List Lk} {L : List Nat} (h : RingS w base R n ls) (hb : But L w w') (hL : ∀ x ∈ L, ∃ cs t, w.heap[x]? = some (.cells cs t) ∧ (t = 60 ∨ t = 36)) : RingS w' base R n ls := by
  have off : ∀ {x : Nat} {cs : Array Value} {t : TypeId}, w.heap[x]? = some (.cells cs t) → t ≠ 60 → t ≠ 36 → x ∉ L := fun hx h1 h2 hm => by
    obtain ⟨cs', t', hg, ht⟩ := hL _ hm
    rw [hx] at hg
    simp only [Option.some.injEq, Obj.cells.injEq] at hg
    rcases ht with e | e
    · exact h1 (hg.2.1.trans e)
    · exact h2 (hg.2.1.trans e)
  refine h.but hb ?_ fun x hx => ⟨?_, fun k hk => ?_⟩
  · obtain ⟨l, h1, _⟩ := h.cell
    exact off h1 (by decide) (by decide)
  · obtain ⟨q, h1, _⟩ := h.links.at x hx
    exact off h1 (by decide) (by decide)
  · obtain ⟨q, _, h2⟩ := h.links.at x hx
    obtain ⟨cur, hg⟩ := h2.tag k hk
    exact off hg (by decide) (by decide)
/-- Behind a Put that fits. -/
theorem Lives.put {w wr w1 w2 : World} {base R X : Nat} {n : Int} {k : Nat} {told : Value} {ls : List Lk} {tv : List Value} {z : Lk} {L : List Nat} (h : Lives w base R X n k told wr ls tv)
    (hz : ∀ b, z.sl.ownBlock = some b → wr.heap.size ≤ b) (hzb : IsBytes z.bs ∧ z.bs.length ≤ 65536) (hS : RingS w1 base R n (ls ++ [z])) (hb1 : But (R :: ls.map Lk.blk) wr w1) (hu : 8 + z.bs.length + used ls ≤ n)
    (hR : RefS w2 (okL base told) X n ((ls ++ [z]).map Lk.bs)) (hb2 : But L w1 w2) (hL : ∀ x ∈ L, okL base told x ∧ ∃ cs t, w1.heap[x]? = some (.cells cs t) ∧ (t = 60 ∨ t = 36)) : Lives w base R X n (k + 1) told w2 (ls ++ [z]) tv := by
  have hq1 : OwnQ w1 36 told tv := h.toldq.but hb1 (fun b hb hm => by
    obtain ⟨cs, t, hg, _, ht, _⟩ := tags_ring h.ring b hm
    exact h.toldq.tagoff hg ht hb)
  have hr1 : ∀ {v : Value} {xs : List Value}, OwnQ wr 5 v xs → OwnQ w2 5 v xs := fun ho => by
    have h1 := ho.but hb1 (fun b hb hm => by
      obtain ⟨cs, t, hg, _, _, ht⟩ := tags_ring h.ring b hm
      exact ho.tagoff hg ht hb)
    exact h1.but hb2 (fun b hb hm => by
      obtain ⟨_, cs, t, hg, ht⟩ := hL b hm
      exact h1.tagoff hg (by rcases ht with rfl | rfl <;> decide) hb)
  exact {
    hbase := h.hbase
    ring := ring_tagoff hS hb2 (fun x hx => (hL x hx).2)
    fits := by rw [used_snoc]; omega
    ref := hR
    few := by have := h.few; simp; omega
    bytes := fun x hx => by
      rcases List.mem_append.1 hx with hx | hx
      · exact h.bytes x hx
      · simp only [List.mem_singleton] at hx; subst hx; exact hzb
    toldq := hq1.but hb2 (fun b hb hm => (hL b hm).1.2 hb)
    toldlow := h.toldlow
    rows := fun j v hv => by
      obtain ⟨xs, h1, h2⟩ := h.rows j v hv
      exact ⟨xs, hr1 h1, h2⟩
    apart := by
      intro i j u v b hu hv hbu hbv
      rw [List.map_append, ← List.append_assoc] at hu hv
      have hlen : ∀ {i : Nat} {u : Value}, (tv ++ ls.map Lk.sl ++ [z].map Lk.sl)[i]? = some u → ¬ i < (tv ++ ls.map Lk.sl).length → i = (tv ++ ls.map Lk.sl).length ∧ u = z.sl := fun {i u} hu hi => by
        rw [List.getElem?_append_right (by omega)] at hu
        cases hii : i - (tv ++ ls.map Lk.sl).length with
        | zero => rw [hii] at hu; simp at hu; exact ⟨by omega, hu.symm⟩
        | succ m => rw [hii] at hu; simp at hu
      by_cases hi : i < (tv ++ ls.map Lk.sl).length
      · rw [List.getElem?_append_left hi] at hu
        by_cases hj : j < (tv ++ ls.map Lk.sl).length
        · rw [List.getElem?_append_left hj] at hv
          exact h.apart i j u v b hu hv hbu hbv
        · obtain ⟨_, rfl⟩ := hlen hv hj
          have := h.lt i u b hu hbu
          have := hz b hbv
          omega
      · obtain ⟨e1, rfl⟩ := hlen hu hi
        by_cases hj : j < (tv ++ ls.map Lk.sl).length
        · rw [List.getElem?_append_left hj] at hv
          have := h.lt j v b hv hbv
          have := hz b hbu
          omega
        · obtain ⟨e2, _⟩ := hlen hv hj
          omega
    tfew := by have := h.tfew; omega
    but := (h.but.trans hb1 (fun x hx => .inr (by have := h.ring.tops x hx; have := h.hbase; omega))).trans hb2 (fun x hx => .inr (by have := (hL x hx).1.1; have := h.hbase; omega)) }
/-- Behind an append of one row to what was told: from the state behind the takes. -/
theorem Lives.tell {w w3 w5 : World} {base R X : Nat} {n : Int} {k : Nat} {told told' : Value} {ls : List Lk} {tv : List Value} {v : Value} {xs : List Value} {P : Nat → Prop}
    (hbase : w.heap.size ≤ base) (ring : RingS w3 base R n ls) (fits : used ls ≤ n) (ref : RefS w3 (fun b => okL base told b ∧ P b) X n (ls.map Lk.bs)) (few : ls.length ≤ k) (bytes : ∀ x ∈ ls, IsBytes x.bs ∧ x.bs.length ≤ 65536)
    (toldq : OwnQ w3 36 told tv) (toldlow : ∀ b, told.ownBlock = some b → base ≤ b) (rows : ∀ (j : Nat) (v : Value), tv[j]? = some v → ∃ xs, OwnQ w3 5 v xs ∧ xs.length ≤ 65536 ∧ ∀ b, v.ownBlock = some b → base ≤ b)
    (hv : OwnQ w3 5 v xs) (hxl : xs.length ≤ 65536) (hvb : ∀ b, v.ownBlock = some b → base ≤ b) (apart : ApartV (tv ++ v :: ls.map Lk.sl)) (tfew : tv.length ≤ k) (but : But [] w w3) (hbw : base ≤ w3.heap.size)
    (hap : Appended (w3.alloc (.cells #[v] 36)) w5 36 told told' tv [v]) : Lives w base R X n (k + 1) told' w5 ls (tv ++ [v]) ∧ RefS w5 (fun b => okL base told' b ∧ P b) X n (ls.map Lk.bs) := by
  obtain ⟨hq, hc⟩ := hap
  have hb3 : But [] w3 (w3.alloc (.cells #[v] 36)) := (But.refl _ _).alloc _
  have hb5 : But told.ownBlock.toList w3 w5 ∧ ∀ b, told'.ownBlock = some b → told.ownBlock = some b ∨ w3.heap.size ≤ b := by
    rcases hc with ⟨a2, cap, e1, e2, _, hb⟩ | ⟨hn, hb⟩
    · refine ⟨(hb3.mono (by simp)).trans hb (fun x h => .inl h), fun b hb' => .inl ?_⟩
      rw [e1]
      rw [e2] at hb'
      exact (own_addr _ _ _ _ _).trans hb'
    · refine ⟨(hb3.trans hb (by simp)).mono (by simp), fun b hb' => .inr ?_⟩
      rw [hn] at hb'
      cases hb'
      rw [size_alloc]
      omega
  have hq3 : ∀ {u : Value} {ys : List Value}, OwnQ w3 5 u ys → OwnQ w5 5 u ys := fun ho => ho.but hb5.1 (fun b hb hm => ho.ne toldq (by decide) hb (by simpa using hm))
  have href : RefS w5 (fun b => okL base told' b ∧ P b) X n (ls.map Lk.bs) := by
    have h1 : RefS w3 (fun b => (okL base told b ∧ P b) ∧ (told.ownBlock = some b ∨ w3.heap.size ≤ b → False)) X n (ls.map Lk.bs) := ref.also fun b hb hk => ⟨hk, fun h => by
      rcases h with h | h
      · exact hk.1.2 h
      · omega⟩
    have h2 := h1.keep hb5.1 (fun x hx hk => hk.2 (.inl (by simpa using hx)))
    exact h2.also fun b _ hk => ⟨⟨hk.1.1.1, fun hb => hk.2 (hb5.2 b hb)⟩, hk.1.2⟩
  refine ⟨{
    hbase := hbase
    ring := ring_tagoff ring hb5.1 (fun x hx => by
      obtain ⟨cur, hg⟩ := toldq.tag x (by simpa using hx)
      exact ⟨_, _, hg, .inr rfl⟩)
    fits := fits
    ref := href.also (fun b _ h => h.1)
    few := by omega
    bytes := bytes
    toldq := hq
    toldlow := fun b hb => by
      rcases hb5.2 b hb with h | h
      · exact toldlow b h
      · omega
    rows := fun j u hu => by
      by_cases hj : j < tv.length
      · rw [List.getElem?_append_left hj] at hu
        obtain ⟨ys, h1, h2⟩ := rows j u hu
        exact ⟨ys, hq3 h1, h2⟩
      · rw [List.getElem?_append_right (by omega)] at hu
        cases hjj : j - tv.length with
        | zero =>
          rw [hjj] at hu
          simp only [List.getElem?_cons_zero, Option.some.injEq] at hu
          subst hu
          exact ⟨xs, hq3 hv, hxl, hvb⟩
        | succ m => rw [hjj] at hu; simp at hu
    apart := by rw [List.append_assoc]; exact apart
    tfew := by simp; omega
    but := but.trans hb5.1 (fun x hx => .inr (by have := toldlow x (by simpa using hx); omega)) }, href⟩
theorem appended_but {w3 w5 : World} {o : Obj} {told told' : Value} {tv news : List Value} (h : Appended (w3.alloc o) w5 36 told told' tv news) : But told.ownBlock.toList w3 w5 := by
  have hb3 : But [] w3 (w3.alloc o) := (But.refl _ _).alloc _
  rcases h.2 with ⟨_, _, _, _, _, hb⟩ | ⟨_, hb⟩
  · exact (hb3.mono (by simp)).trans hb (fun x h => .inl h)
  · exact (hb3.trans hb (by simp)).mono (by simp)
theorem OwnQ.one {w w' : World} {e t : TypeId} {v : Value} {xs : List Value} {X : Nat} {cs : Array Value} (h : OwnQ w e v xs) (hb : But [X] w w') (hX : w.heap[X]? = some (.cells cs t)) (ht : t ≠ e) : OwnQ w' e v xs := h.but hb (fun b hbv hm => by
  simp only [List.mem_singleton] at hm
  subst hm
  exact h.tagoff hX ht hbv)
/-- Behind a Take of both, an append to what was told. -/
theorem Lives.took {w w4 w5 w6 w7 w9 : World} {base R X : Nat} {n : Int} {k : Nat} {told told' : Value} {x : Lk} {ls : List Lk} {tv : List Value} {P : Nat → Prop} {cs : Array Value} (h : Lives w base R X n k told w4 (x :: ls) tv) (hS5 : RingS w5 base R n ls) (hb5 : But [R] w4 w5) (ho5 : Own w5 x.sl x.bs)
    (hX : w5.heap[X]? = some (.cells cs 60)) (hb6 : But [X] w5 w6) (hR6 : RefS w6 (fun b => okL base told b ∧ P b) X n (ls.map Lk.bs)) (hb7 : But [] w6 w7) (hap : Appended (w7.alloc (.cells #[x.sl] 36)) w9 36 told told' tv [x.sl]) :
    Lives w base R X n (k + 1) told' w9 ls (tv ++ [x.sl]) ∧ RefS w9 (fun b => okL base told' b ∧ P b) X n (ls.map Lk.bs) := by
  obtain ⟨l, hRc, _⟩ := h.ring.cell
  have hq : ∀ {v : Value} {xs : List Value}, OwnQ w4 5 v xs → OwnQ w7 5 v xs := fun ho => ((ho.one hb5 hRc (by decide)).one hb6 hX (by decide)).but hb7 (by simp)
  have hfit := h.fits
  rw [used_cons] at hfit
  have hbx := h.bytes x (by simp)
  have hfew := h.few
  simp only [List.length_cons] at hfew
  have hbut : But [] w w7 := ((h.but.trans hb5 (fun y hy => .inr (by simp at hy; have := h.ring.hbase; have := h.hbase; omega))).trans hb6 (fun y hy => .inr (by
    simp at hy
    have := hR6.okX.1.1
    have := h.hbase
    omega))).trans hb7 (by simp)
  refine Lives.tell h.hbase ((ring_tagoff hS5 hb6 (fun y hy => by simp only [List.mem_singleton] at hy; subst hy; exact ⟨_, _, hX, .inl rfl⟩)).keep hb7) (by omega) (hR6.keep hb7 (by simp)) (by omega) (fun y hy => h.bytes y (by simp [hy])) (((h.toldq.one hb5 hRc (by decide)).one hb6 hX (by decide)).but hb7 (by simp)) h.toldlow (fun j v hv => ?_) (((ho5.que).one hb6 hX (by decide)).but hb7 (by simp)) hbx.2 (fun b hb => (h.ring.low x (by simp)).2 b hb) h.apart h.tfew hbut ?_ hap
  · obtain ⟨xs, h1, h2⟩ := h.rows j v hv
    exact ⟨xs, hq h1, h2⟩
  · have := h.ring.hbase
    have h1 := h.ring.lt
    have h2 := hb5.size
    have h3 := hb6.size
    have h4 := hb7.size
    omega
/-- Behind the writing over of what was lent. -/
theorem Lives.over {w wr w' : World} {base R X g : Nat} {n : Int} {k : Nat} {told : Value} {ls : List Lk} {tv : List Value} {cur : Array Value} (h : Lives w base R X n k told wr ls tv) (hG : RefS wr (fun b => okL base told b ∧ b ≠ g) X n (ls.map Lk.bs)) (hb : But [g] wr w')
    (hg : wr.heap[g]? = some (.cells cur 5)) (hgn : ∀ (i : Nat) (v : Value), (tv ++ ls.map Lk.sl)[i]? = some v → v.ownBlock ≠ some g) (hbg : base ≤ g) : Lives w base R X n k told w' ls tv where
  hbase := h.hbase
  ring := by
    refine h.ring.but hb ?_ fun x hx => ⟨?_, fun b hbx => ?_⟩
    · intro hm
      simp only [List.mem_singleton] at hm
      obtain ⟨l, h1, _⟩ := h.ring.cell
      subst hm
      rw [h1] at hg
      simp only [Option.some.injEq, Obj.cells.injEq] at hg
      exact absurd hg.2.1 (by decide)
    · intro hm
      simp only [List.mem_singleton] at hm
      obtain ⟨q, h1, _⟩ := h.ring.links.at x hx
      subst hm
      rw [h1] at hg
      simp only [Option.some.injEq, Obj.cells.injEq] at hg
      exact absurd hg.2.1 (by decide)
    · intro hm
      simp only [List.mem_singleton] at hm
      subst hm
      obtain ⟨i, hi⟩ := List.getElem?_of_mem (List.mem_append_right tv (List.mem_map.2 ⟨x, hx, rfl⟩))
      exact hgn i _ hi hbx
  fits := h.fits
  ref := (hG.keep hb (fun x hx hk => hk.2 (by simpa using hx))).also (fun b _ hk => hk.1)
  few := h.few
  bytes := h.bytes
  toldq := h.toldq.but hb (fun b hbt hm => by
    simp only [List.mem_singleton] at hm
    subst hm
    exact h.toldq.tagoff hg (by decide) hbt)
  toldlow := h.toldlow
  rows := fun j v hv => by
    obtain ⟨xs, h1, h2⟩ := h.rows j v hv
    refine ⟨xs, h1.but hb (fun b hbv hm => ?_), h2⟩
    simp only [List.mem_singleton] at hm
    subst hm
    exact hgn j v (by rw [List.getElem?_append_left (List.getElem?_eq_some_iff.1 hv).1]; exact hv) hbv
  apart := h.apart
  tfew := h.tfew
  but := h.but.trans hb (fun x hx => .inr (by simp at hx; have := h.hbase; omega))
end Go.Proofs.Ytlajffbjkgedhaa.M
