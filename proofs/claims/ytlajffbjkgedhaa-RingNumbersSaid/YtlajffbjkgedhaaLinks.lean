/-
  Plain: a ring as it lies, behind a Put and a Take.
-/
import Derived.Test.YtlajffbjkgedhaaRoomC
import Derived.Test.YtlajffbjkgedhaaRingNew
namespace Go.Proofs.Ytlajffbjkgedhaa.M
open Go.RowKit
set_option linter.unusedVariables false
set_option linter.unusedSectionVars false
set_option linter.unusedSimpArgs false
theorem set_same {w : World} {R j : Nat} {cs : Array Value} {t : TypeId} (h : w.heap[R]? = some (.cells cs t)) (v : Value) : (w.setCell ⟨R, j, none⟩ v).heap[R]? = some (.cells (cs.setIfInBounds j v) t) := by
  simp [World.setCell, Array.getElem?_modify, h]
theorem set_other {w : World} {R j k : Nat} {o : Obj} (h : w.heap[k]? = some o) (hne : k ≠ R) (v : Value) : (w.setCell ⟨R, j, none⟩ v).heap[k]? = some o := by
  rw [Below.heap_setCell _ _ _ _ hne]; exact h
theorem alloc_keep {w : World} {k : Nat} {o : Obj} (h : w.heap[k]? = some o) (o' : Obj) : (w.alloc o').heap[k]? = some o := by
  rw [Below.heap_alloc w o' k (lt_of h)]; exact h
theorem Links.at {w : World} : ∀ {l : List Lk}, Links w l → ∀ x ∈ l, ∃ q, w.heap[x.blk]? = some (.cells #[x.sl, .pointer q] 105) ∧ Own w x.sl x.bs
  | [], _, x, hx => by cases hx
  | y :: l, h, x, hx => by
    rcases List.mem_cons.1 hx with rfl | hx
    · exact ⟨_, h.1, h.2.1⟩
    · exact Links.at h.2.2 x hx
theorem Links.but {L : List Nat} {w w' : World} (hb : But L w w') : ∀ {l : List Lk}, Links w l → (∀ x ∈ l, x.blk ∉ L ∧ ∀ k, x.sl.ownBlock = some k → k ∉ L) → Links w' l
  | [], _, _ => trivial
  | y :: l, h, hn => ⟨hb.heap h.1 (hn y (by simp)).1, h.2.1.but hb (hn y (by simp)).2, Links.but hb h.2.2 (fun x hx => hn x (by simp [hx]))⟩
/-- A row's block bears bytes. -/
theorem Own.tag {w : World} {v : Value} {xs : List Value} (h : Own w v xs) : ∀ k, v.ownBlock = some k → ∃ cur, w.heap[k]? = some (.cells cur 5) := fun k hk => by
  rcases h.2 with ⟨rfl, hn⟩ | ⟨g, cap, cur, rfl, h0, hg, rest⟩
  · cases hk
  · cases hk; exact ⟨cur, hg⟩
theorem Own.off {w : World} {v : Value} {xs : List Value} (h : Own w v xs) {k : Nat} (hk : v.ownBlock = some k) {cs : Array Value} {t : TypeId} (hR : w.heap[k]? = some (.cells cs t)) (ht : t ≠ 5) : False := by
  obtain ⟨cur, hg⟩ := h.tag k hk
  rw [hR] at hg
  simp only [Option.some.injEq, Obj.cells.injEq] at hg
  exact ht hg.2.1
theorem own_form {w : World} {v : Value} {xs : List Value} (h : Own w v xs) : ∃ a c, v = .slice a xs.length c := by
  rcases h.2 with ⟨rfl, hn⟩ | ⟨g, cap, cur, rfl, _⟩
  · exact ⟨none, 0, by rw [hn]⟩
  · exact ⟨_, _, rfl⟩
/-- A ring as it lies. -/
structure RingS (w : World) (base R : Nat) (n : Int) (ls : List Lk) : Prop where
  cell : ∃ l : Option Addr, w.heap[R]? = some (.cells #[.pointer (lkPtr ls), .pointer l, .int .i64 n] 52) ∧ ∀ x, ls.getLast? = some x → l = some ⟨x.blk, 0, none⟩
  links : Links w ls
  inc : (ls.map Lk.blk).Pairwise (· < ·)
  hbase : base ≤ R
  low : ∀ x ∈ ls, base ≤ x.blk ∧ ∀ k, x.sl.ownBlock = some k → base ≤ k
theorem RingS.new {w : World} {base R : Nat} {n : Int} (h : w.heap[R]? = some (.cells #[.pointer none, .pointer none, .int .i64 n] 52)) (hb : base ≤ R) : RingS w base R n [] :=
  ⟨⟨none, h, fun x hx => by cases hx⟩, trivial, List.Pairwise.nil, hb, fun x hx => by cases hx⟩
theorem RingS.lt {w : World} {base R : Nat} {n : Int} {ls : List Lk} (h : RingS w base R n ls) : R < w.heap.size := by
  obtain ⟨l, h1, _⟩ := h.cell
  exact lt_of h1
theorem RingS.lts {w : World} {base R : Nat} {n : Int} {ls : List Lk} (h : RingS w base R n ls) : ∀ x ∈ ls, x.blk < w.heap.size ∧ ∀ k, x.sl.ownBlock = some k → k < w.heap.size := fun x hx => by
  obtain ⟨q, h1, h2⟩ := h.links.at x hx
  exact ⟨lt_of h1, h2.lt⟩
theorem RingS.ne {w : World} {base R : Nat} {n : Int} {ls : List Lk} (h : RingS w base R n ls) : ∀ x ∈ ls, x.blk ≠ R ∧ ∀ k, x.sl.ownBlock = some k → k ≠ R ∧ ∀ y ∈ ls, k ≠ y.blk := fun x hx => by
  obtain ⟨l, h1, _⟩ := h.cell
  obtain ⟨q, h2, h3⟩ := h.links.at x hx
  refine ⟨fun e => ?_, fun k hk => ⟨fun e => ?_, fun y hy e => ?_⟩⟩
  · rw [e, h1] at h2
    simp only [Option.some.injEq, Obj.cells.injEq] at h2
    exact absurd h2.2.1 (by decide)
  · subst e; exact h3.off hk h1 (by decide)
  · obtain ⟨q', h4, _⟩ := h.links.at y hy
    subst e; exact h3.off hk h4 (by decide)
theorem RingS.but {w w' : World} {base R : Nat} {n : Int} {ls : List Lk} {L : List Nat} (h : RingS w base R n ls) (hb : But L w w') (hR : R ∉ L) (hL : ∀ x ∈ ls, x.blk ∉ L ∧ ∀ k, x.sl.ownBlock = some k → k ∉ L) : RingS w' base R n ls := by
  obtain ⟨l, h1, h2⟩ := h.cell
  exact ⟨⟨l, hb.heap h1 hR, h2⟩, h.links.but hb hL, h.inc, h.hbase, h.low⟩
theorem RingS.keep {w w' : World} {base R : Nat} {n : Int} {ls : List Lk} (h : RingS w base R n ls) (hb : But [] w w') : RingS w' base R n ls := h.but hb (by simp) (by simp)
theorem RingS.take {w : World} {base R : Nat} {n : Int} {x : Lk} {ls : List Lk} (h : RingS w base R n (x :: ls)) : RingS (w.setCell ⟨R, 0, none⟩ (.pointer (lkPtr ls))) base R n ls ∧ But [R] w (w.setCell ⟨R, 0, none⟩ (.pointer (lkPtr ls))) ∧ Own (w.setCell ⟨R, 0, none⟩ (.pointer (lkPtr ls))) x.sl x.bs := by
  have hne := h.ne
  obtain ⟨l, h1, h2⟩ := h.cell
  have hb : But [R] w (w.setCell ⟨R, 0, none⟩ (.pointer (lkPtr ls))) := (But.refl _ _).setCell (.inl (by simp)) _
  have hl : Links w ls := h.links.2.2
  refine ⟨⟨⟨l, ?_, fun y hy => h2 y ?_⟩, hl.but hb fun y hy => ?_, ?_, h.hbase, fun y hy => h.low y (by simp [hy])⟩, hb, h.links.2.1.but hb (fun k hk => ?_)⟩
  · rw [set_same h1]; rfl
  · rw [List.getLast?_cons, hy]; rfl
  · have := hne y (by simp [hy])
    exact ⟨by simpa using this.1, fun k hk => by simpa using (this.2 k hk).1⟩
  · exact (List.pairwise_cons.1 (by simpa using h.inc)).2
  · simpa using ((hne x (by simp)).2 k hk).1
theorem lkPtr_some {ls : List Lk} (h : ls ≠ []) (m : List Lk) : lkPtr (ls ++ m) = lkPtr ls := by
  cases ls with
  | nil => exact absurd rfl h
  | cons x l => rfl
theorem links_snoc {w w' : World} {z : Lk} (hz : w'.heap[z.blk]? = some (.cells #[z.sl, .pointer none] 105)) (hzo : Own w' z.sl z.bs) : ∀ {ls : List Lk} {y : Lk}, ls.getLast? = some y → But [y.blk] w w' → w'.heap[y.blk]? = some (.cells #[y.sl, .pointer (some ⟨z.blk, 0, none⟩)] 105) → (ls.map Lk.blk).Pairwise (· < ·) → (∀ x ∈ ls, ∀ k, x.sl.ownBlock = some k → k ≠ y.blk) → Links w ls → Links w' (ls ++ [z])
  | [], y, hy, _, _, _, _, _ => by cases hy
  | [x], y, hy, hb, hyn, _, hno, hl => by
    simp only [List.getLast?_singleton, Option.some.injEq] at hy
    subst hy
    exact ⟨hyn, hl.2.1.but hb (fun k hk => by simpa using hno x (by simp) k hk), hz, hzo, trivial⟩
  | x :: x' :: ls, y, hy, hb, hyn, hp, hno, hl => by
    rw [List.getLast?_cons_cons] at hy
    have hmem : y ∈ x' :: ls := List.mem_of_getLast? hy
    have hp' := List.pairwise_cons.1 (show ((x :: x' :: ls).map Lk.blk).Pairwise (· < ·) from hp)
    have hlt := hp'.1 y.blk (List.mem_map.2 ⟨y, hmem, rfl⟩)
    refine ⟨?_, hl.2.1.but hb (fun k hk => by simpa using hno x (by simp) k hk), links_snoc hz hzo hy hb hyn hp'.2 (fun x hx => hno x (by simp [hx])) hl.2.2⟩
    rw [hb.heap hl.1 (by simp; omega)]
    rfl
theorem RingS.last {w : World} {base R : Nat} {n : Int} {ls : List Lk} (h : RingS w base R n ls) {y : Lk} (hy : ls.getLast? = some y) : w.heap[y.blk]? = some (.cells #[y.sl, .pointer none] 105) := by
  have : ∀ {ls : List Lk}, ls.getLast? = some y → Links w ls → w.heap[y.blk]? = some (.cells #[y.sl, .pointer none] 105) := by
    intro ls
    induction ls with
    | nil => intro h; cases h
    | cons x l ih =>
      intro h1 h2
      cases l with
      | nil =>
        simp only [List.getLast?_singleton, Option.some.injEq] at h1
        subst h1; exact h2.1
      | cons x' l => rw [List.getLast?_cons_cons] at h1; exact ih h1 h2.2.2
  exact this hy h.links
theorem RingS.put_first {w : World} {base R : Nat} {n : Int} {v : Value} {bs : List Value} (h : RingS w base R n []) (hv : Own w v bs) (hn : ∀ k, v.ownBlock = some k → base ≤ k) :
    RingS (((w.setCell ⟨R, 0, none⟩ (.pointer (some ⟨w.heap.size, 0, none⟩))).setCell ⟨R, 1, none⟩ (.pointer (some ⟨w.heap.size, 0, none⟩))).alloc (.cells #[v, .pointer none] 105)) base R n [⟨w.heap.size, v, bs⟩] ∧ But [R] w (((w.setCell ⟨R, 0, none⟩ (.pointer (some ⟨w.heap.size, 0, none⟩))).setCell ⟨R, 1, none⟩ (.pointer (some ⟨w.heap.size, 0, none⟩))).alloc (.cells #[v, .pointer none] 105)) := by
  obtain ⟨l, h1, _⟩ := h.cell
  have hlt := h.lt
  have hb : But [R] w (((w.setCell ⟨R, 0, none⟩ (.pointer (some ⟨w.heap.size, 0, none⟩))).setCell ⟨R, 1, none⟩ (.pointer (some ⟨w.heap.size, 0, none⟩))).alloc (.cells #[v, .pointer none] 105)) := (((But.refl _ _).setCell (.inl (by simp)) _).setCell (.inl (by simp)) _).alloc _
  have ha := alloc_at ((w.setCell ⟨R, 0, none⟩ (.pointer (some ⟨w.heap.size, 0, none⟩))).setCell ⟨R, 1, none⟩ (.pointer (some ⟨w.heap.size, 0, none⟩))) (.cells #[v, .pointer none] 105)
  have hs : ((w.setCell ⟨R, 0, none⟩ (.pointer (some ⟨w.heap.size, 0, none⟩))).setCell ⟨R, 1, none⟩ (.pointer (some ⟨w.heap.size, 0, none⟩))).heap.size = w.heap.size := by simp [World.setCell]
  rw [hs] at ha
  refine ⟨⟨⟨some ⟨w.heap.size, 0, none⟩, alloc_keep ?_ _, fun x hx => by cases hx; rfl⟩, ⟨ha, hv.but hb (fun k hk => ?_), trivial⟩, by simp, h.hbase, fun x hx => ?_⟩, hb⟩
  · rw [set_same (set_same h1 _)]; rfl
  · rintro hm
    simp only [List.mem_singleton] at hm
    subst hm
    exact hv.off hk h1 (by decide)
  · simp only [List.mem_singleton] at hx
    subst hx
    exact ⟨Nat.le_trans h.hbase (Nat.le_of_lt hlt), hn⟩
theorem RingS.put_more {w : World} {base R : Nat} {n : Int} {v : Value} {bs : List Value} {ls : List Lk} {y : Lk} (h : RingS w base R n ls) (hy : ls.getLast? = some y) (hv : Own w v bs) (hn : ∀ k, v.ownBlock = some k → base ≤ k) :
    RingS (((w.setCell ⟨y.blk, 1, none⟩ (.pointer (some ⟨w.heap.size, 0, none⟩))).setCell ⟨R, 1, none⟩ (.pointer (some ⟨w.heap.size, 0, none⟩))).alloc (.cells #[v, .pointer none] 105)) base R n (ls ++ [⟨w.heap.size, v, bs⟩]) ∧ But [y.blk, R] w (((w.setCell ⟨y.blk, 1, none⟩ (.pointer (some ⟨w.heap.size, 0, none⟩))).setCell ⟨R, 1, none⟩ (.pointer (some ⟨w.heap.size, 0, none⟩))).alloc (.cells #[v, .pointer none] 105)) := by
  have hy' : y ∈ ls := List.mem_of_getLast? hy
  have hne0 : ls ≠ [] := by intro e; rw [e] at hy; cases hy
  obtain ⟨l, h1, _⟩ := h.cell
  have hlt := h.lt
  have hlts := h.lts
  have hyn := (h.ne y hy').1
  have hlast := h.last hy
  have hb0 : But [y.blk] w (w.setCell ⟨y.blk, 1, none⟩ (.pointer (some ⟨w.heap.size, 0, none⟩))) := (But.refl _ _).setCell (.inl (by simp)) _
  have hb : But [y.blk, R] w (((w.setCell ⟨y.blk, 1, none⟩ (.pointer (some ⟨w.heap.size, 0, none⟩))).setCell ⟨R, 1, none⟩ (.pointer (some ⟨w.heap.size, 0, none⟩))).alloc (.cells #[v, .pointer none] 105)) := (((But.refl _ _).setCell (.inl (by simp)) _).setCell (.inl (by simp)) _).alloc _
  have hb1 : But [R] (w.setCell ⟨y.blk, 1, none⟩ (.pointer (some ⟨w.heap.size, 0, none⟩))) (((w.setCell ⟨y.blk, 1, none⟩ (.pointer (some ⟨w.heap.size, 0, none⟩))).setCell ⟨R, 1, none⟩ (.pointer (some ⟨w.heap.size, 0, none⟩))).alloc (.cells #[v, .pointer none] 105)) := ((But.refl _ _).setCell (.inl (by simp)) _).alloc _
  have ha := alloc_at ((w.setCell ⟨y.blk, 1, none⟩ (.pointer (some ⟨w.heap.size, 0, none⟩))).setCell ⟨R, 1, none⟩ (.pointer (some ⟨w.heap.size, 0, none⟩))) (.cells #[v, .pointer none] 105)
  have hs : ((w.setCell ⟨y.blk, 1, none⟩ (.pointer (some ⟨w.heap.size, 0, none⟩))).setCell ⟨R, 1, none⟩ (.pointer (some ⟨w.heap.size, 0, none⟩))).heap.size = w.heap.size := by simp [World.setCell]
  rw [hs] at ha
  have hvo : ∀ k, v.ownBlock = some k → k ≠ y.blk ∧ k ≠ R := fun k hk => ⟨fun e => by subst e; exact hv.off hk hlast (by decide), fun e => by subst e; exact hv.off hk h1 (by decide)⟩
  have hin : But [y.blk] w (w.setCell ⟨y.blk, 1, none⟩ (.pointer (some ⟨w.heap.size, 0, none⟩))) := hb0
  have hRl : Links w ls := h.links
  -- the links, first behind the store into the last one, R aside
  have hl2 : Links (((w.setCell ⟨y.blk, 1, none⟩ (.pointer (some ⟨w.heap.size, 0, none⟩))).setCell ⟨R, 1, none⟩ (.pointer (some ⟨w.heap.size, 0, none⟩))).alloc (.cells #[v, .pointer none] 105)) (ls ++ [⟨w.heap.size, v, bs⟩]) := by
    have hw1 : But [y.blk] (w.setCell ⟨R, 1, none⟩ (.pointer (some ⟨w.heap.size, 0, none⟩))) (((w.setCell ⟨y.blk, 1, none⟩ (.pointer (some ⟨w.heap.size, 0, none⟩))).setCell ⟨R, 1, none⟩ (.pointer (some ⟨w.heap.size, 0, none⟩))).alloc (.cells #[v, .pointer none] 105)) := by
      refine ⟨rfl, rfl, rfl, by rw [size_alloc, hs]; simp [World.setCell], fun k hk hm => ?_⟩
      simp only [List.mem_singleton] at hm
      have hk' : k < w.heap.size := by simpa [World.setCell] using hk
      rw [Below.heap_alloc _ _ _ (by rw [hs]; exact hk')]
      by_cases hkR : k = R
      · subst hkR
        simp only [World.setCell, Array.getElem?_modify]
        rw [if_neg (Ne.symm hm)]
      · rw [Below.heap_setCell _ _ _ _ hkR, Below.heap_setCell _ _ _ _ hm, Below.heap_setCell _ _ _ _ hkR]
    have hbR : But [R] w (w.setCell ⟨R, 1, none⟩ (.pointer (some ⟨w.heap.size, 0, none⟩))) := (But.refl _ _).setCell (.inl (by simp)) _
    refine links_snoc (w := w.setCell ⟨R, 1, none⟩ (.pointer (some ⟨w.heap.size, 0, none⟩))) ha (hv.but hb (fun k hk => by simpa using hvo k hk)) hy hw1 (alloc_keep (set_other (by rw [set_same hlast]; rfl) hyn _) _) h.inc (fun x hx k hk => ((h.ne x hx).2 k hk).2 y hy') (hRl.but hbR fun x hx => ⟨by simpa using (h.ne x hx).1, fun k hk => by simpa using ((h.ne x hx).2 k hk).1⟩)
  refine ⟨⟨⟨some ⟨w.heap.size, 0, none⟩, alloc_keep ?_ _, fun x hx => ?_⟩, hl2, ?_, h.hbase, fun x hx => ?_⟩, hb⟩
  · rw [lkPtr_some hne0, set_same (set_other h1 (Ne.symm hyn) _)]; rfl
  · rw [List.getLast?_concat] at hx
    cases hx; rfl
  · rw [List.map_append, List.pairwise_append]
    refine ⟨h.inc, by simp, fun a ha' b hb' => ?_⟩
    obtain ⟨x, hx, rfl⟩ := List.mem_map.1 ha'
    simp only [List.map_cons, List.map_nil, List.mem_singleton] at hb'
    subst hb'
    exact (hlts x hx).1
  · rcases List.mem_append.1 hx with hx | hx
    · exact h.low x hx
    · simp only [List.mem_singleton] at hx
      subst hx
      exact ⟨Nat.le_trans h.hbase (Nat.le_of_lt hlt), hn⟩
/-- What Room goes through. -/
def slOf : Value → Sl
  | .slice a n c => (a, n, c)
  | _ => (none, 0, 0)
def used (ls : List Lk) : Int := (ls.map fun x => (8 + x.bs.length : Int)).sum
theorem isList_of {w : World} : ∀ {ls : List Lk}, Links w ls → IsList w.heap.size w (lkPtr ls) (ls.map fun x => slOf x.sl)
  | [], _ => rfl
  | x :: ls, h => by
    obtain ⟨a, c, e⟩ := own_form h.2.1
    refine ⟨x.blk, lkPtr ls, rfl, lt_of h.1, ?_, cell_of h.1 1, isList_of h.2.2⟩
    rw [cell_of h.1 0]
    simp [e, slOf]
theorem sumL_of {w : World} : ∀ {ls : List Lk}, Links w ls → sumL (ls.map fun x => slOf x.sl) = used ls
  | [], _ => rfl
  | x :: ls, h => by
    obtain ⟨a, c, e⟩ := own_form h.2.1
    have ih := sumL_of h.2.2
    simp only [sumL, used, List.map_cons, List.sum_cons] at ih ⊢
    rw [ih, e]
    rfl
theorem used_nonneg (ls : List Lk) : 0 ≤ used ls := by
  induction ls with
  | nil => simp [used]
  | cons x ls ih => simp only [used, List.map_cons, List.sum_cons] at *; omega
theorem used_snoc (ls : List Lk) (z : Lk) : used (ls ++ [z]) = used ls + (8 + z.bs.length) := by simp [used]
theorem used_cons (x : Lk) (ls : List Lk) : used (x :: ls) = (8 + x.bs.length) + used ls := by simp [used]
theorem RingS.room {w : World} {base R : Nat} {n : Int} {ls : List Lk} (h : RingS w base R n ls) (hs : 0 < n) (hs2 : n ≤ 1000000) (hu : used ls ≤ n) :
    Calls Try.prog 19 #[.pointer (some ⟨R, 0, none⟩)] w fun e w' => e = .returned (.int .i64 (n - used ls)) ∧ But [] w w' := by
  obtain ⟨l, h1, _⟩ := h.cell
  refine (room_ok R _ _ n _ w h1 hs hs2 (isList_of h.links) (by rw [sumL_of h.links]; exact hu)).mono ?_
  rintro e w' ⟨rfl, hb⟩
  exact ⟨by rw [sumL_of h.links], But.of_below hb⟩
end Go.Proofs.Ytlajffbjkgedhaa.M
