/-
  Plain: slots in a row of one's own, told as bytes are (XQue, XRow, XOwnQ): append, store.
-/
import Derived.Test.YtddeckkcfcodbaaGreatKeptI
import Derived.Test.YtddeckkcfcodbaaGreatFlatSp
namespace Go.Proofs.YtddeckkcfcodbaaGreat.M
open Go.RowKit Go.Shelf
set_option linter.unusedVariables false
set_option linter.unusedSectionVars false
set_option linter.unusedSimpArgs false
def OwnI (w : World) (v : Value) (l : List Ins) : Prop :=
  (v = .slice none 0 0 ∧ l = []) ∨ ∃ g cap cur, v = .slice (some ⟨g, 0, none⟩) l.length cap ∧ w.heap[g]? = some (.cells cur 27 (0, 0)) ∧ l.length ≤ cap ∧ cap ≤ maxLen ∧ cap * 5 ≤ cur.size ∧ ∀ (j : Nat) (u : Value), (l.flatMap Ins.cells)[j]? = some u → cur[j]? = some u
theorem RowI.own {B : Nat} {w : World} {v : Value} {l : List Ins} (h : RowI B w v l) : OwnI w v l := by
  rcases h.2 with ⟨h1, h2⟩ | ⟨g, cap, cur, h1, _, h3, h4, h5, h6, h7⟩
  · exact .inl ⟨h1, List.eq_nil_of_length_eq_zero h2⟩
  · refine .inr ⟨g, cap, cur, h1, h3, h4, h5, by omega, fun j u hj => ?_⟩
    rw [← h7, List.getElem?_take] at hj
    split at hj
    · simpa using hj
    · cases hj
theorem OwnI.form {w : World} {v : Value} {l : List Ins} (h : OwnI w v l) : ∃ a c, v = .slice a l.length c := by
  rcases h with ⟨rfl, rfl⟩ | ⟨g, cap, cur, rfl, _⟩
  · exact ⟨none, 0, rfl⟩
  · exact ⟨_, _, rfl⟩
theorem OwnI.tag {w : World} {v : Value} {l : List Ins} (h : OwnI w v l) {b : Nat} (hb : v.ownBlock = some b) : ∃ cur, w.heap[b]? = some (.cells cur 27) := by
  rcases h with ⟨rfl, rfl⟩ | ⟨g, cap, cur, rfl, h1, _⟩
  · cases hb
  · cases hb; exact ⟨cur, h1⟩
theorem OwnI.lt {w : World} {v : Value} {l : List Ins} (h : OwnI w v l) {b : Nat} (hb : v.ownBlock = some b) : b < w.heap.size := by
  obtain ⟨cur, hc⟩ := h.tag hb
  exact lt_of hc
theorem OwnI.but {w w' : World} {v : Value} {l : List Ins} {L : List Nat} (h : OwnI w v l) (hb : But L w w') (hn : ∀ b, v.ownBlock = some b → b ∉ L) : OwnI w' v l := by
  rcases h with h | ⟨g, cap, cur, rfl, h1, h2⟩
  · exact .inl h
  · exact .inr ⟨g, cap, cur, rfl, hb.heap h1 (hn g rfl), h2⟩
theorem OwnI.ne {w : World} {e : TypeId} {v v' : Value} {l : List Ins} {ys : List Value} (h : OwnI w v l) (h' : OwnQ w e v' ys) (he : e ≠ 27) {b : Nat} (hb : v.ownBlock = some b) (hb' : v'.ownBlock = some b) : False := by
  obtain ⟨cur, hc⟩ := h.tag hb
  obtain ⟨cur', hc'⟩ := h'.tag b hb'
  rw [hc] at hc'
  simp only [Option.some.injEq, Obj.cells.injEq] at hc'
  exact he hc'.2.1.symm
theorem OwnI.len {w : World} {a : Option Addr} {n c : Nat} {l : List Ins} (h : OwnI w (.slice a n c) l) : l.length = n := by
  obtain ⟨a', c', e⟩ := h.form
  cases e; rfl
theorem OwnI.addr {w : World} {a : Option Addr} {n c : Nat} {l : List Ins} (h : OwnI w (.slice a n c) l) (hn : 0 < n) : ∃ g, a = some ⟨g, 0, none⟩ := by
  have hl := h.len
  rcases h with ⟨e, rfl⟩ | ⟨g, cap, cur, e, _⟩
  · simp at hl; omega
  · cases e; exact ⟨g, rfl⟩
/-- The five cells of a slot. -/
def At5 (W : World) (g k : Nat) (x : Ins) : Prop := W.cell? ⟨g, k, none⟩ = some (.int .u8 x.op) ∧ W.cell? ⟨g, k + 1, none⟩ = some (.int .u8 x.dst) ∧ W.cell? ⟨g, k + 2, none⟩ = some (.int .u8 x.src) ∧ W.cell? ⟨g, k + 3, none⟩ = some (.int .i16 x.off) ∧ W.cell? ⟨g, k + 4, none⟩ = some (.int .i32 x.imm)
theorem At5.but {W W' : World} {g k : Nat} {x : Ins} (h : At5 W g k x) (hb : But [] W W') : At5 W' g k x :=
  ⟨cell_but hb h.1 (by simp), cell_but hb h.2.1 (by simp), cell_but hb h.2.2.1 (by simp), cell_but hb h.2.2.2.1 (by simp), cell_but hb h.2.2.2.2 (by simp)⟩
theorem OwnI.at5 {w : World} {g n c : Nat} {l : List Ins} (h : OwnI w (.slice (some ⟨g, 0, none⟩) n c) l) {i : Nat} {x : Ins} (hx : l[i]? = some x) : At5 w g (i * 5) x := by
  rcases h with ⟨e, _⟩ | ⟨g', cap, cur, e, h1, _, _, _, h5⟩
  · cases e
  · cases e
    have k : ∀ (j : Nat) (u : Value), x.cells[j]? = some u → w.cell? ⟨g, i * 5 + j, none⟩ = some u := fun j u hj => by
      rw [cl_of h1]
      refine h5 _ _ ?_
      rw [flat_cellsI l i j x hx (List.getElem?_eq_some_iff.1 hj).1]
      exact hj
    exact ⟨k 0 _ rfl, k 1 _ rfl, k 2 _ rfl, k 3 _ rfl, k 4 _ rfl⟩
theorem OwnI.frozenAt {w : World} {g n c : Nat} {l : List Ins} (h : OwnI w (.slice (some ⟨g, 0, none⟩) n c) l) (j : Nat) : w.frozen? ⟨g, j, none⟩ = false := by
  rcases h with ⟨e, _⟩ | ⟨g', cap, cur, e, h1, _⟩
  · cases e
  · cases e
    unfold World.frozen?
    rw [h1]
    simp
theorem set_flat {l : List Ins} {i : Nat} {x : Ins} (hi : i < l.length) {j : Nat} {u : Value} (hj : ((l.set i x).flatMap Ins.cells)[j]? = some u) : (j < i * 5 ∨ i * 5 + 5 ≤ j) ∧ (l.flatMap Ins.cells)[j]? = some u ∨ ∃ q, q < 5 ∧ j = i * 5 + q ∧ x.cells[q]? = some u := by
  have hlt : j < l.length * 5 := by
    have := (List.getElem?_eq_some_iff.1 hj).1
    rw [flat_lenI, List.length_set] at this
    exact this
  have h5 : j / 5 * 5 + j % 5 = j := by omega
  by_cases e : j / 5 = i
  · refine .inr ⟨j % 5, by omega, by omega, ?_⟩
    rw [← h5, flat_cellsI (l.set i x) (j / 5) (j % 5) x (by rw [e]; exact List.getElem?_set_self hi) (by omega)] at hj
    exact hj
  · refine .inl ⟨by omega, ?_⟩
    obtain ⟨y, hy⟩ : ∃ y, l[j / 5]? = some y := ⟨_, List.getElem?_eq_getElem (by omega)⟩
    rw [← h5, flat_cellsI (l.set i x) (j / 5) (j % 5) y (by rw [List.getElem?_set_ne (Ne.symm e)]; exact hy) (by omega)] at hj
    rw [← h5, flat_cellsI l (j / 5) (j % 5) y hy (by omega)]
    exact hj
/-- A store at a place. -/
theorem OwnI.set {w : World} {g n c : Nat} {l : List Ins} (h : OwnI w (.slice (some ⟨g, 0, none⟩) n c) l) (i : Nat) (hi : i < l.length) (x : Ins) : OwnI (w.setCells g (i * 5) x.cells) (.slice (some ⟨g, 0, none⟩) n c) (l.set i x) := by
  rcases h with ⟨e, _⟩ | ⟨g', cap, cur, e, h1, h2, h3, h4, h5⟩
  · cases e
  · cases e
    have hxl : x.cells.length = 5 := rfl
    obtain ⟨cur', k1, k2, k3, k4, k5⟩ := cells_set (t := 27) (g := g) (news := x.cells) (cur := cur) (o := i * 5) (w := w) h1 (by rw [hxl]; omega)
    refine .inr ⟨g, c, cur', by rw [List.length_set], k1, by rw [List.length_set]; exact h2, h3, by omega, fun j u hj => ?_⟩
    rcases set_flat hi hj with ⟨hjj, hu⟩ | ⟨q, hq, rfl, hu⟩
    · rcases hjj with hjj | hjj
      · rw [k3 j hjj]; exact h5 j u hu
      · rw [k5 j (by rw [hxl]; exact hjj)]; exact h5 j u hu
    · exact k4 q u hu
theorem but_set5 (w : World) (g i : Nat) (x : Ins) : But [g] w (w.setCells g i x.cells) := but_setCells g x.cells i w
theorem OwnI.pre {w : World} {a : Option Addr} {n p c : Nat} {l : List Ins} (h : OwnI w (.slice a n c) l) (hp : p ≤ l.length) : OwnI w (.slice a p c) (l.take p) := by
  have hl := h.len
  rcases h with ⟨e, rfl⟩ | ⟨g, cap, cur, e, h1, h2, h3, h4, h5⟩
  · cases e
    obtain rfl : p = 0 := by simpa using hp
    exact .inl ⟨rfl, rfl⟩
  · cases e
    refine .inr ⟨g, c, cur, by rw [List.length_take]; congr 1; omega, h1, by rw [List.length_take]; omega, h3, h4, fun j u hj => h5 j u ?_⟩
    have e : l = l.take p ++ l.drop p := (List.take_append_drop p l).symm
    rw [e, List.flatMap_append, List.getElem?_append_left (List.getElem?_eq_some_iff.1 hj).1]
    exact hj
/-- Behind an append of slots. -/
def AppI (w w' : World) (v v' : Value) (l news : List Ins) : Prop :=
  OwnI w' v' (l ++ news) ∧ ((∃ a cap, v = .slice a l.length cap ∧ v' = .slice a (l.length + news.length) cap ∧ OwnI w' v l ∧ But v.ownBlock.toList w w') ∨ (v'.ownBlock = some w.heap.size ∧ But [] w w'))
section
variable {P : Program} {w : World}
theorem run_append_ins (t ty : TypeId) (i : TypeInfo) (z : Value) (bytes : Nat) (ht : P.underlying t = some (.slice 27)) (hi : P.info? 27 = some i) (hz : i.zero = some z) (hsize : i.size = 5) (hby : i.bytes = bytes) (hzs : z.cells.size = 5)
    (v : Value) (l : List Ins) (h : OwnI w v l) (x : Value) (news : List Ins) (hsrc : Src P i.size t x news.length (news.flatMap Ins.cells) w) (h63 : l.length + news.length ≤ maxLen) (hbytes : (l.length + news.length) * bytes ≤ 140737488355328) :
    ∃ v' w', (Builtin.append_ #[t, t] ty #[v, x]).run P w = .ok v' w' ∧ AppI w w' v v' l news := by
  have hfl := flat_lenI l
  have hfn := flat_lenI news
  have grow : ∀ (bs : Option Addr) (sc : Nat), v = .slice bs l.length sc → sc < l.length + news.length →
      (Builtin.firstCells i.size l.length (.slice bs l.length sc)).run P w.drew = .ok (l.flatMap Ins.cells).toArray w.drew →
      ∃ v' w', (Builtin.append_ #[t, t] ty #[v, x]).run P w = .ok v' w' ∧ AppI w w' v v' l news := by
    rintro bs sc rfl hg hold
    have hrun := run_append_grow_src (P := P) w t t ty 27 i z ht hi hz bs l.length sc (l.flatMap Ins.cells) hold x news.length (news.flatMap Ins.cells) hsrc hg (by simp only [maxLen] at h63; omega) (growslice_fits hg (by rw [hby]; exact hbytes))
    have hge := grownCap_ge w (l.length + news.length) sc 27
    have hcm := grownCap_le_maxLen w (l.length + news.length) sc 27 h63
    refine ⟨_, _, hrun, .inr ⟨w.heap.size, _, _, by rw [List.length_append], Array.getElem?_push_size, by rw [List.length_append]; exact hge, hcm, ?_, fun j u hj => ?_⟩, .inr ⟨rfl, (But.refl [] w).drew.alloc _⟩⟩
    · rw [Array.size_append, List.size_toArray, size_zeroCells, hzs, List.length_append, hfl, hfn]
      omega
    · rw [List.flatMap_append] at hj
      have hjl := (List.getElem?_eq_some_iff.1 hj).1
      rw [Array.getElem?_append_left (by simpa using hjl), List.getElem?_toArray]
      exact hj
  rcases id h with ⟨rfl, rfl⟩ | ⟨g, cap, cur, rfl, hg, hc, hm, hs, hxs⟩
  · by_cases h0 : news.length = 0
    · obtain rfl : news = [] := List.eq_nil_of_length_eq_zero h0
      exact ⟨_, _, run_append_nothing (P := P) w t t ty 27 i ht hi none 0 0 (Nat.le_refl _) x hsrc, .inl ⟨rfl, rfl⟩, .inl ⟨none, 0, rfl, rfl, .inl ⟨rfl, rfl⟩, But.refl _ _⟩⟩
    · exact grow none 0 rfl (by simp; omega) (run_firstCells_none w.drew i.size 0 0 0)
  · by_cases hroom : l.length + news.length ≤ cap
    · have hcell : ∀ j, j < cap * 5 → (w.cell? ⟨g, j, none⟩).isSome = true ∧ w.frozen? ⟨g, j, none⟩ = false := fun j h2 => by
        unfold World.cell? World.frozen?
        rw [hg]
        simp only [Option.isNone_none]
        refine ⟨?_, by simp⟩
        have : j < cur.size := by omega
        simp [this]
      have hrun := run_append_room_src (P := P) w t t ty 27 i ht hi g 0 l.length cap x news.length (news.flatMap Ins.cells) hsrc hroom
        (fun j hj => by rw [hsize, Nat.zero_add]; exact (hcell _ (by omega)).1)
        (fun j hj => by rw [hsize, Nat.zero_add]; exact (hcell _ (by omega)).2)
      rw [hsize, Nat.zero_add] at hrun
      obtain ⟨cur', k1, k2, k3, k4, _⟩ := cells_set (t := 27) (g := g) (news := news.flatMap Ins.cells) (cur := cur) (o := l.length * 5) (w := w) hg (by omega)
      refine ⟨_, _, hrun, .inr ⟨g, cap, cur', by rw [List.length_append], k1, by rw [List.length_append]; exact hroom, hm, by omega, fun j u hj => ?_⟩, .inl ⟨some ⟨g, 0, none⟩, cap, rfl, rfl, .inr ⟨g, cap, cur', rfl, k1, hc, hm, by omega, fun j u hj => ?_⟩, but_setCells g (news.flatMap Ins.cells) _ w⟩⟩
      · rw [List.flatMap_append] at hj
        by_cases hjx : j < l.length * 5
        · rw [k3 j hjx, hxs j u (by rw [List.getElem?_append_left (by omega)] at hj; exact hj)]
        · rw [List.getElem?_append_right (by omega)] at hj
          rw [← k4 (j - l.length * 5) u (by rw [← hfl]; exact hj)]
          congr 1
          omega
      · have hjl := (List.getElem?_eq_some_iff.1 hj).1
        rw [k3 j (by omega), hxs j u hj]
    · refine grow (some ⟨g, 0, none⟩) cap rfl (by omega) (run_firstCells_some w.drew i.size l.length ⟨g, 0, none⟩ l.length cap (l.flatMap Ins.cells) (by rw [hsize]; exact hfl) (fun j u hj => ?_))
      rw [add_at, Nat.zero_add]
      show w.cell? _ = _
      unfold World.cell?
      rw [hg]
      exact hxs j u hj
theorem wpList_append_ins {ops : Array Oper} {rest : List Oper} {op : Oper} {a : Act} {Q : Exit → Act → World → Prop} (hgd : op.guard = none) (s x : Operand) (t : TypeId)
    (ho : op.op = .call { callee := .builtin .append, args := #[s, x], argTypes := #[t, t] })
    (i : TypeInfo) (z : Value) (bytes : Nat) (ht : P.underlying t = some (.slice 27)) (hi : P.info? 27 = some i) (hz : i.zero = some z)
    (hsize : i.size = 5) (hby : i.bytes = bytes) (hzs : z.cells.size = 5)
    (v : Value) (l : List Ins) (hs : a.eval s = v) (hown : OwnI w v l) (news : List Ins) (y : Value) (hx : a.eval x = y) (hsrc : Src P i.size t y news.length (news.flatMap Ins.cells) w)
    (h63 : l.length + news.length ≤ maxLen) (hbytes : (l.length + news.length) * bytes ≤ 140737488355328)
    (h : ∀ v' w', AppI w w' v v' l news → wpList P ops Q rest (a.put op.dst v') w') :
    wpList P ops Q (op :: rest) a w := by
  refine wpList_plain hgd fun K hK => ?_
  obtain ⟨v', w', hr, h2⟩ := run_append_ins (P := P) t op.type i z bytes ht hi hz hsize hby hzs v l hown y news hsrc h63 hbytes
  unfold Oper.wp execOp
  simp only [ho, resolve, invoke, builtin, Sem.run_bind, Sem.run_pure, Result.andThen_ok, List.map_toArray, List.map_cons, List.map_nil, hs, hx, hr]
  exact hK _ _ (h v' w' h2)
theorem src_ins {t : TypeId} (hk : P.underlying t = some (.slice 27)) {g n c : Nat} {l : List Ins} (hn : l.length = n) (h : OwnI w (.slice (some ⟨g, 0, none⟩) n c) l) : Src P 5 t (.slice (some ⟨g, 0, none⟩) n c) l.length (l.flatMap Ins.cells) w := by
  subst hn
  refine Src.ofSlice w hk ⟨g, 0, none⟩ l.length c (l.flatMap Ins.cells) (flat_lenI l) (fun j u hj => ?_) (flat_oneI l)
  rcases h with ⟨e, _⟩ | ⟨g', cap, cur, e, h1, _, _, _, h5⟩
  · cases e
  · cases e
    rw [add_at, Nat.zero_add, cl_of h1]
    exact h5 j u hj
end
/-! ### Rows that lie apart are marked, grown, marked again (as XFlatSp has it of bytes). -/
theorem marksI_take {k n m : Nat} (h : m ≤ n) : (marksI k n).take m = marksI k m := by
  simp [marksI, ← List.map_take, List.take_range, Nat.min_eq_left h]
def RowsI (w : World) (vals : List Value) (f : Nat → List Ins) : Prop := ∀ (k : Nat) (v : Value), vals[k]? = some v → OwnI w v (f k)
structure FI (w wr : World) (vals : List Value) (n : Nat → Nat) (ls : Value) : Prop where
  rows : RowsI wr vals (fun j => marksI j (n j))
  lsq : OwnQ wr 28 ls vals
  but : But (blks vals) w wr
theorem rowsI_set {w w' : World} {vals : List Value} {f : Nat → List Ins} {k : Nat} {v : Value} {xs : List Ins} (h : RowsI w vals f) (hA : ApartV vals) (hv : vals[k]? = some v) (hb : But v.ownBlock.toList w w') (ho : OwnI w' v xs) :
    RowsI w' vals (fun j => if j = k then xs else f j) := fun j u hu => by
  by_cases hj : j = k
  · subst hj
    rw [hv] at hu
    cases hu
    show OwnI w' _ (if j = j then xs else f j)
    rw [if_pos rfl]
    exact ho
  · show OwnI w' u (if j = k then xs else f j)
    rw [if_neg hj]
    exact (h j u hu).but hb (fun b hbu hm => hj (hA j k u v b hu hv hbu (by simpa using hm)))
theorem lsI_keep {w w' : World} {vals : List Value} {f : Nat → List Ins} {ls : Value} {k : Nat} {v : Value} (h : RowsI w vals f) (hl : OwnQ w 28 ls vals) (hv : vals[k]? = some v) (hb : But v.ownBlock.toList w w') : OwnQ w' 28 ls vals :=
  hl.but hb (fun b hbl hm => (h k v hv).ne hl (by decide) (by simpa using hm) hbl)
theorem FI.new {w wr w' : World} {vals : List Value} {n : Nat → Nat} {ls : Value} (h : FI w wr vals n ls) (hb : But [] wr w') : FI w w' vals n ls :=
  ⟨fun k v hv => (h.rows k v hv).but hb (by simp), h.lsq.but hb (by simp), h.but.trans hb (by simp)⟩
theorem FI.old {w wr w' : World} {vals : List Value} {n : Nat → Nat} {ls : Value} {L : List Nat} (h : FI w wr vals n ls) (hb : But L wr w') (hL : ∀ x ∈ L, w.heap.size ≤ x) (hv : ∀ x ∈ L, x ∉ blks vals) (hl : ∀ b, ls.ownBlock = some b → b ∉ L) : FI w w' vals n ls :=
  ⟨fun k v hk => (h.rows k v hk).but hb (fun b hbv hm => hv b hm (mem_blks hk hbv)), h.lsq.but hb hl, h.but.trans hb (fun x hx => .inr (hL x hx))⟩
theorem FI.row {w wr w' : World} {vals : List Value} {n : Nat → Nat} {ls : Value} {k : Nat} {v : Value} (h : FI w wr vals n ls) (hA : ApartV vals) (hv : vals[k]? = some v) (hb : But v.ownBlock.toList wr w') (ho : OwnI w' v (marksI k (n k))) : FI w w' vals n ls := by
  refine ⟨fun j u hu => ?_, lsI_keep h.rows h.lsq hv hb, but_row h.but hv hb⟩
  have := rowsI_set h.rows hA hv hb ho j u hu
  by_cases hj : j = k
  · subst hj; simpa using this
  · simpa [hj] using this
def GI (B : Nat) (wr : World) (G v : Value) (xs : List Ins) : Prop := OwnI wr G xs ∧ (G.ownBlock = v.ownBlock ∨ ∃ b, G.ownBlock = some b ∧ B ≤ b)
theorem GI.new {B : Nat} {wr w' : World} {G v : Value} {xs : List Ins} (h : GI B wr G v xs) (hb : But [] wr w') : GI B w' G v xs := ⟨h.1.but hb (by simp), h.2⟩
theorem GI.other {B : Nat} {wr w' : World} {vals : List Value} {j k : Nat} {G u v : Value} {xs : List Ins} (h : GI B wr G u xs) (hA : ApartV vals) (hu : vals[j]? = some u) (hv : vals[k]? = some v) (hjk : j ≠ k) (hlow : ∀ b, v.ownBlock = some b → b < B) (hb : But v.ownBlock.toList wr w') : GI B w' G u xs := by
  refine ⟨h.1.but hb (fun b hbG hm => ?_), h.2⟩
  have hvb : v.ownBlock = some b := by simpa using hm
  rcases h.2 with e | ⟨b', e, hB⟩
  · exact hjk (hA j k u v b hu hv (e ▸ hbG) hvb)
  · rw [e] at hbG
    cases hbG
    have := hlow b hvb
    omega
def GrowI (H : Nat) (wr : World) (k m i : Nat) (v g : Value) : Prop := OwnI wr g (marksI k (m + i)) ∧ ((∃ a cap, v = .slice a m cap ∧ g = .slice a (m + i) cap) ∨ ∃ b, g.ownBlock = some b ∧ H ≤ b)
theorem growI_start {H : Nat} {wr : World} {k m : Nat} {v : Value} (h : OwnI wr v (marksI k m)) : GrowI H wr k m 0 v v := by
  obtain ⟨a, c, e⟩ := h.form
  rw [marksI_len] at e
  exact ⟨h, .inl ⟨a, c, e, e⟩⟩
theorem growI_step {H : Nat} {w wr wx w' : World} {vals : List Value} {n : Nat → Nat} {ls : Value} {k i : Nat} {v g g' : Value}
    (hF : FI w wr vals n ls) (hA : ApartV vals) (hv : vals[k]? = some v) (hlow : ∀ (k : Nat) (v : Value) (b : Nat), vals[k]? = some v → v.ownBlock = some b → b < H) (hls : ∀ b, ls.ownBlock = some b → b < H) (hwH : w.heap.size ≤ H) (hHx : H ≤ wx.heap.size)
    (hG : GrowI H wr k (n k) i v g) (hx : But [] wr wx) (hap : AppI wx w' g g' (marksI k (n k + i)) [mI k ((n k : Int) + i)]) :
    FI w w' vals n ls ∧ GrowI H w' k (n k) (i + 1) v g' ∧ But ((if g.ownBlock = v.ownBlock then v.ownBlock else g.ownBlock).toList) wr w' := by
  obtain ⟨ho, hr⟩ := hG
  obtain ⟨hq, hc⟩ := hap
  have hm : marksI k (n k + i) ++ [mI k ((n k : Int) + i)] = marksI k (n k + (i + 1)) := by
    rw [← Nat.add_assoc, marksI_succ]
    congr 3
  rw [hm] at hq
  have hFx := hF.new hx
  have hvx := hFx.rows k v hv
  rcases hc with ⟨a, cap, e1, e2, ho2, hb⟩ | ⟨hnew, hb⟩
  · rw [marksI_len] at e1
    simp only [marksI_len, List.length_cons, List.length_nil, Nat.zero_add] at e2
    rcases hr with ⟨a', cap', e3, e4⟩ | ⟨b, e3, e4⟩
    · rw [e1] at e4
      simp only [Value.slice.injEq, true_and] at e4
      obtain ⟨rfl, rfl⟩ := e4
      have hown : g.ownBlock = v.ownBlock := by rw [e1, e3]; cases a <;> rfl
      rw [hown] at hb
      have hv' : OwnI w' v (marksI k (n k)) := by
        have h1 := hq
        rw [e2] at h1
        have h2 := h1.pre (p := n k) (by rw [marksI_len]; omega)
        rw [marksI_take (by omega)] at h2
        rw [e3]
        exact h2
      refine ⟨hFx.row hA hv hb hv', ⟨hq, .inl ⟨a, cap, e3, by rw [e2]; rfl⟩⟩, ?_⟩
      rw [if_pos hown]
      exact (hx.mono (by simp)).trans hb (fun x h => .inl h)
    · have hne : ∀ (k' : Nat) (v' : Value) (b' : Nat), vals[k']? = some v' → v'.ownBlock = some b' → b' ≠ b := fun k' v' b' h1 h2 e => by
        have := hlow k' v' b' h1 h2
        omega
      have hgv : g.ownBlock ≠ v.ownBlock := fun e => by
        rw [e3] at e
        exact hne k v b hv e.symm rfl
      rw [if_neg hgv]
      refine ⟨hFx.old hb (fun x hxm => ?_) (fun x hxm hbl => ?_) (fun b' hb' hm' => ?_), ⟨hq, .inr ⟨b, ?_, e4⟩⟩, (hx.mono (by simp)).trans hb (fun x h => .inl h)⟩
      · rw [e3] at hxm; simp at hxm; omega
      · rw [e3] at hxm
        simp at hxm
        obtain ⟨k', v', h1, h2⟩ := of_blks hbl
        exact hne k' v' x h1 h2 hxm
      · rw [e3] at hm'
        simp at hm'
        have := hls b' hb'
        omega
      · rw [e2]
        rw [e1] at e3
        cases a with
        | none => cases e3
        | some a => exact e3
  · refine ⟨hFx.new hb, ⟨hq, .inr ⟨_, hnew, hHx⟩⟩, (hx.trans hb (by simp)).mono (by simp)⟩
end Go.Proofs.YtddeckkcfcodbaaGreat.M
