/-
  Plain: records of a string and a number in a row of one's own: append, parts. No program.
-/
import Derived.Test.YtpoinhfkgnkedaaGD
import Derived.Test.YtpoinhfkgnkedaaGA
namespace Go.Proofs.Ytpoinhfkgnkedaa.M
open Go.RowKit
set_option linter.unusedVariables false
set_option linter.unusedSectionVars false
set_option linter.unusedSimpArgs false
abbrev Rec := ByteArray × Nat
def rcells (x : Rec) : List Value := [.string x.1, .int .i64 x.2]
def flatP (l : List Rec) : List Value := l.flatMap rcells
theorem flatP_len (l : List Rec) : (flatP l).length = l.length * 2 := by
  unfold flatP
  induction l with
  | nil => rfl
  | cons x l ih =>
    simp only [List.flatMap_cons, List.length_append, ih, List.length_cons]
    show 2 + _ = _
    omega
theorem flatP_cons (x : Rec) (l : List Rec) : flatP (x :: l) = .string x.1 :: .int .i64 x.2 :: flatP l := rfl
theorem flatP_append (l m : List Rec) : flatP (l ++ m) = flatP l ++ flatP m := by unfold flatP; rw [List.flatMap_append]
theorem flatP_at : ∀ (l : List Rec) (i : Nat) (x : Rec), l[i]? = some x → (flatP l)[i * 2]? = some (.string x.1) ∧ (flatP l)[i * 2 + 1]? = some (.int .i64 x.2)
  | [], i, x, h => by simp at h
  | y :: l, 0, x, h => by
    simp at h
    subst h
    exact ⟨rfl, rfl⟩
  | y :: l, i + 1, x, h => by
    have h1 := flatP_at l i x (by simpa using h)
    rw [flatP_cons, show (i + 1) * 2 = i * 2 + 1 + 1 by omega]
    exact h1
theorem flatP_one (l : List Rec) : ∀ u ∈ flatP l, u.oneCell' = true := fun u hu => by
  unfold flatP at hu
  obtain ⟨x, _, h⟩ := List.mem_flatMap.1 hu
  simp only [rcells, List.mem_cons, List.not_mem_nil, or_false] at h
  rcases h with rfl | rfl <;> rfl
def OwnP (w : World) (e : TypeId) (v : Value) (l : List Rec) : Prop :=
  (v = .slice none 0 0 ∧ l = []) ∨ ∃ g cap cur, v = .slice (some ⟨g, 0, none⟩) l.length cap ∧ w.heap[g]? = some (.cells cur e (0, 0)) ∧ l.length ≤ cap ∧ cap ≤ maxLen ∧ cap * 2 ≤ cur.size ∧ ∀ (j : Nat) (u : Value), (flatP l)[j]? = some u → cur[j]? = some u
section
variable {w w' : World} {e : TypeId} {v : Value} {l : List Rec}
theorem OwnP.nil (w : World) (e : TypeId) : OwnP w e (.slice none 0 0) [] := .inl ⟨rfl, rfl⟩
theorem OwnP.form (h : OwnP w e v l) : ∃ a c, v = .slice a l.length c := by
  rcases h with ⟨rfl, rfl⟩ | ⟨g, cap, cur, rfl, _⟩
  · exact ⟨none, 0, rfl⟩
  · exact ⟨_, _, rfl⟩
theorem OwnP.tag (h : OwnP w e v l) {b : Nat} (hb : v.ownBlock = some b) : ∃ cur, w.heap[b]? = some (.cells cur e) := by
  rcases h with ⟨rfl, rfl⟩ | ⟨g, cap, cur, rfl, h1, _⟩
  · cases hb
  · cases hb; exact ⟨cur, h1⟩
theorem OwnP.lt (h : OwnP w e v l) {b : Nat} (hb : v.ownBlock = some b) : b < w.heap.size := by
  obtain ⟨cur, hc⟩ := h.tag hb
  exact lt_of hc
theorem OwnP.but {L : List Nat} (h : OwnP w e v l) (hb : But L w w') (hn : ∀ b, v.ownBlock = some b → b ∉ L) : OwnP w' e v l := by
  rcases h with h | ⟨g, cap, cur, rfl, h1, h2⟩
  · exact .inl h
  · exact .inr ⟨g, cap, cur, rfl, hb.heap h1 (hn g rfl), h2⟩
theorem OwnP.ne {e' : TypeId} {v' : Value} {ys : List Value} (h : OwnP w e v l) (h' : OwnQ w e' v' ys) (he : e' ≠ e) {b : Nat} (hb : v.ownBlock = some b) (hb' : v'.ownBlock = some b) : False := by
  obtain ⟨cur, hc⟩ := h.tag hb
  obtain ⟨cur', hc'⟩ := h'.tag b hb'
  rw [hc] at hc'
  simp only [Option.some.injEq, Obj.cells.injEq] at hc'
  exact he hc'.2.1.symm
theorem OwnP.len {a : Option Addr} {n c : Nat} (h : OwnP w e (.slice a n c) l) : l.length = n := by
  obtain ⟨a', c', e⟩ := h.form
  cases e; rfl
theorem OwnP.cap {a : Option Addr} {n c : Nat} (h : OwnP w e (.slice a n c) l) : n ≤ c ∧ c ≤ maxLen := by
  rcases h with ⟨e, rfl⟩ | ⟨g, cap, cur, e, _, h1, h2, _⟩
  · cases e; exact ⟨Nat.le_refl _, Nat.zero_le _⟩
  · cases e; exact ⟨h1, h2⟩
theorem OwnP.addr {a : Option Addr} {n c : Nat} (h : OwnP w e (.slice a n c) l) (hn : 0 < n) : ∃ g, a = some ⟨g, 0, none⟩ := by
  have hl := h.len
  rcases h with ⟨e, rfl⟩ | ⟨g, cap, cur, e, _⟩
  · simp at hl; omega
  · cases e; exact ⟨g, rfl⟩
/-- The two cells of a record. -/
theorem OwnP.at2 {g n c : Nat} (h : OwnP w e (.slice (some ⟨g, 0, none⟩) n c) l) {i : Nat} {x : Rec} (hx : l[i]? = some x) : w.cell? ⟨g, i * 2, none⟩ = some (.string x.1) ∧ w.cell? ⟨g, i * 2 + 1, none⟩ = some (.int .i64 x.2) := by
  rcases h with ⟨e, _⟩ | ⟨g', cap, cur, e, h1, _, _, _, h5⟩
  · cases e
  · cases e
    obtain ⟨k1, k2⟩ := flatP_at l i x hx
    exact ⟨by rw [cl_of h1]; exact h5 _ _ k1, by rw [cl_of h1]; exact h5 _ _ k2⟩
end
/-- Behind an append of records. -/
def AppP (w w' : World) (e : TypeId) (v v' : Value) (l news : List Rec) : Prop :=
  OwnP w' e v' (l ++ news) ∧ ((∃ a cap, v = .slice a l.length cap ∧ v' = .slice a (l.length + news.length) cap ∧ But v.ownBlock.toList w w') ∨ (v'.ownBlock = some w.heap.size ∧ But [] w w'))
section
variable {P : Program} {w : World}
theorem run_append_p (t ty e : TypeId) (i : TypeInfo) (z : Value) (bytes : Nat) (ht : P.underlying t = some (.slice e)) (hi : P.info? e = some i) (hz : i.zero = some z) (hsize : i.size = 2) (hby : i.bytes = bytes) (hzs : z.cells.size = 2)
    (v : Value) (l : List Rec) (h : OwnP w e v l) (x : Value) (news : List Rec) (hsrc : Src P i.size t x news.length (flatP news) w) (h63 : l.length + news.length ≤ maxLen) (hbytes : (l.length + news.length) * bytes ≤ 140737488355328) :
    ∃ v' w', (Builtin.append_ #[t, t] ty #[v, x]).run P w = .ok v' w' ∧ AppP w w' e v v' l news := by
  have hfl := flatP_len l
  have hfn := flatP_len news
  have grow : ∀ (bs : Option Addr) (sc : Nat), v = .slice bs l.length sc → sc < l.length + news.length →
      (Builtin.firstCells i.size l.length (.slice bs l.length sc)).run P w.drew = .ok (flatP l).toArray w.drew →
      ∃ v' w', (Builtin.append_ #[t, t] ty #[v, x]).run P w = .ok v' w' ∧ AppP w w' e v v' l news := by
    rintro bs sc rfl hg hold
    have hrun := run_append_grow_src (P := P) w t t ty e i z ht hi hz bs l.length sc (flatP l) hold x news.length (flatP news) hsrc hg (by simp only [maxLen] at h63; omega) (growslice_fits hg (by rw [hby]; exact hbytes))
    have hge := grownCap_ge w (l.length + news.length) sc e
    have hcm := grownCap_le_maxLen w (l.length + news.length) sc e h63
    refine ⟨_, _, hrun, .inr ⟨w.heap.size, _, _, by rw [List.length_append], Array.getElem?_push_size, by rw [List.length_append]; exact hge, hcm, ?_, fun j u hj => ?_⟩, .inr ⟨rfl, (But.refl [] w).drew.alloc _⟩⟩
    · rw [Array.size_append, List.size_toArray, size_zeroCells, hzs, List.length_append, hfl, hfn]
      omega
    · rw [flatP_append] at hj
      have hjl := (List.getElem?_eq_some_iff.1 hj).1
      rw [Array.getElem?_append_left (by simpa using hjl), List.getElem?_toArray]
      exact hj
  rcases id h with ⟨rfl, rfl⟩ | ⟨g, cap, cur, rfl, hg, hc, hm, hs, hxs⟩
  · by_cases h0 : news.length = 0
    · obtain rfl : news = [] := List.eq_nil_of_length_eq_zero h0
      exact ⟨_, _, run_append_nothing (P := P) w t t ty e i ht hi none 0 0 (Nat.le_refl _) x hsrc, .inl ⟨rfl, rfl⟩, .inl ⟨none, 0, rfl, rfl, But.refl _ _⟩⟩
    · exact grow none 0 rfl (by simp; omega) (run_firstCells_none w.drew i.size 0 0 0)
  · by_cases hroom : l.length + news.length ≤ cap
    · have hcell : ∀ j, j < cap * 2 → (w.cell? ⟨g, j, none⟩).isSome = true ∧ w.frozen? ⟨g, j, none⟩ = false := fun j h2 => by
        unfold World.cell? World.frozen?
        rw [hg]
        simp only [Option.isNone_none]
        refine ⟨?_, by simp⟩
        have : j < cur.size := by omega
        simp [this]
      have hrun := run_append_room_src (P := P) w t t ty e i ht hi g 0 l.length cap x news.length (flatP news) hsrc hroom
        (fun j hj => by rw [hsize, Nat.zero_add]; exact (hcell _ (by omega)).1)
        (fun j hj => by rw [hsize, Nat.zero_add]; exact (hcell _ (by omega)).2)
      rw [hsize, Nat.zero_add] at hrun
      obtain ⟨cur', k1, k2, k3, k4, _⟩ := cells_set (t := e) (g := g) (news := flatP news) (cur := cur) (o := l.length * 2) (w := w) hg (by omega)
      refine ⟨_, _, hrun, .inr ⟨g, cap, cur', by rw [List.length_append], k1, by rw [List.length_append]; exact hroom, hm, by omega, fun j u hj => ?_⟩, .inl ⟨some ⟨g, 0, none⟩, cap, rfl, rfl, but_setCells g (flatP news) _ w⟩⟩
      rw [flatP_append] at hj
      by_cases hjx : j < l.length * 2
      · rw [k3 j hjx, hxs j u (by rw [List.getElem?_append_left (by omega)] at hj; exact hj)]
      · rw [List.getElem?_append_right (by omega)] at hj
        rw [← k4 (j - l.length * 2) u (by rw [← hfl]; exact hj)]
        congr 1
        omega
    · refine grow (some ⟨g, 0, none⟩) cap rfl (by omega) (run_firstCells_some w.drew i.size l.length ⟨g, 0, none⟩ l.length cap (flatP l) (by rw [hsize]; exact hfl) (fun j u hj => ?_))
      rw [add_at, Nat.zero_add]
      show w.cell? _ = _
      unfold World.cell?
      rw [hg]
      exact hxs j u hj
theorem wpList_append_p {ops : Array Oper} {rest : List Oper} {op : Oper} {a : Act} {Q : Exit → Act → World → Prop} (hgd : op.guard = none) (s x : Operand) (t : TypeId)
    (ho : op.op = .call { callee := .builtin .append, args := #[s, x], argTypes := #[t, t] })
    (e : TypeId) (i : TypeInfo) (z : Value) (bytes : Nat) (ht : P.underlying t = some (.slice e)) (hi : P.info? e = some i) (hz : i.zero = some z)
    (hsize : i.size = 2) (hby : i.bytes = bytes) (hzs : z.cells.size = 2)
    (v : Value) (l : List Rec) (hs : a.eval s = v) (hown : OwnP w e v l) (news : List Rec) (y : Value) (hx : a.eval x = y) (hsrc : Src P i.size t y news.length (flatP news) w)
    (h63 : l.length + news.length ≤ maxLen) (hbytes : (l.length + news.length) * bytes ≤ 140737488355328)
    (h : ∀ v' w', AppP w w' e v v' l news → wpList P ops Q rest (a.put op.dst v') w') :
    wpList P ops Q (op :: rest) a w := by
  refine wpList_plain hgd fun K hK => ?_
  obtain ⟨v', w', hr, h2⟩ := run_append_p (P := P) t op.type e i z bytes ht hi hz hsize hby hzs v l hown y news hsrc h63 hbytes
  unfold Oper.wp execOp
  simp only [ho, resolve, invoke, builtin, Sem.run_bind, Sem.run_pure, Result.andThen_ok, List.map_toArray, List.map_cons, List.map_nil, hs, hx, hr]
  exact hK _ _ (h v' w' h2)
theorem step_append_p {ops : Array Oper} {o : Oper} {a : Act} {K : Act → World → Prop} {Q : Exit → Act → World → Prop} {E : Prop} (hgd : o.guard = none) (s x : Operand) (t : TypeId)
    (ho : o.op = .call { callee := .builtin .append, args := #[s, x], argTypes := #[t, t] })
    (e : TypeId) (i : TypeInfo) (z : Value) (bytes : Nat) (ht : P.underlying t = some (.slice e)) (hi : P.info? e = some i) (hz : i.zero = some z)
    (hsize : i.size = 2) (hby : i.bytes = bytes) (hzs : z.cells.size = 2)
    (v : Value) (l : List Rec) (hs : a.eval s = v) (hown : OwnP w e v l) (news : List Rec) (y : Value) (hx : a.eval x = y) (hsrc : Src P i.size t y news.length (flatP news) w)
    (h63 : l.length + news.length ≤ maxLen) (hbytes : (l.length + news.length) * bytes ≤ 140737488355328)
    (h : ∀ v' w', AppP w w' e v v' l news → K (a.put o.dst v') w') :
    if Region.wanted o (yielded ops a.tmps) = true then Oper.wp P o a w K Q else E := by
  have hw : Region.wanted o (yielded ops a.tmps) = true := by simp [Region.wanted, hgd]
  rw [if_pos hw]
  obtain ⟨v', w', hr, h2⟩ := run_append_p (P := P) t o.type e i z bytes ht hi hz hsize hby hzs v l hown y news hsrc h63 hbytes
  unfold Oper.wp
  simp only [execOp, ho, resolve, invoke, builtin, Sem.run_bind, Sem.run_pure, Result.andThen_ok, List.map_toArray, List.map_cons, List.map_nil, hs, hx, hr]
  exact h v' w' h2
/-- A part of a row, as what is appended. -/
theorem OwnP.part {e t : TypeId} (hk : P.underlying t = some (.slice e)) {g n c : Nat} {l : List Rec} (h : OwnP w e (.slice (some ⟨g, 0, none⟩) n c) l) (k m c' : Nat) (hm : k + m ≤ l.length) : Src P 2 t (.slice (some ⟨g, k * 2, none⟩) m c') ((l.drop k).take m).length (flatP ((l.drop k).take m)) w := by
  have hl : ((l.drop k).take m).length = m := by rw [List.length_take, List.length_drop]; omega
  rw [hl]
  refine Src.ofSlice w hk ⟨g, k * 2, none⟩ m c' _ (by rw [flatP_len, hl]) (fun j u hj => ?_) (flatP_one _)
  rcases h with ⟨e, _⟩ | ⟨g', cap, cur, e, h1, _, _, _, h5⟩
  · cases e
  · cases e
    rw [add_at, cl_of h1]
    refine h5 _ _ ?_
    have e1 : l = l.take k ++ ((l.drop k).take m ++ (l.drop k).drop m) := by rw [List.take_append_drop, List.take_append_drop]
    have hkl : (flatP (l.take k)).length = k * 2 := by rw [flatP_len, List.length_take]; omega
    rw [e1, flatP_append, flatP_append, List.getElem?_append_right (by omega), hkl, Nat.add_sub_cancel_left, List.getElem?_append_left (List.getElem?_eq_some_iff.1 hj).1]
    exact hj
/-- Nothing to append. -/
theorem src_none {t e : TypeId} (hk : P.underlying t = some (.slice e)) (a : Addr) (c : Nat) : Src P 2 t (.slice (some a) 0 c) ([] : List Rec).length (flatP []) w :=
  Src.ofSlice w hk a 0 c [] (by simp) (fun j u hj => by simp at hj) (fun u hu => by cases hu)
end
/-- A row that is laid anew: an append to none. -/
theorem freshP {w0 wA w5 : World} {e : TypeId} {v' : Value} {xs : List Rec} (hb0 : But [] w0 wA) (hz : w0.heap.size < wA.heap.size) (hap : AppP wA w5 e (.slice (some ⟨w0.heap.size, 0, none⟩) 0 0) v' [] xs) : ∃ a c, v' = .slice a xs.length c ∧ OwnP w5 e (.slice a xs.length c) xs ∧ (∀ b, (Value.slice a xs.length c).ownBlock = some b → w0.heap.size ≤ b) ∧ But [] w0 w5 := by
  obtain ⟨hq, hc⟩ := hap
  rw [List.nil_append] at hq
  obtain ⟨a', c', rfl⟩ := hq.form
  refine ⟨a', c', rfl, hq, ?_⟩
  rcases hc with ⟨a2, cap, e1, e2, hb⟩ | ⟨hn, hb⟩
  · simp only [Value.slice.injEq] at e1 e2
    obtain ⟨rfl, _, rfl⟩ := e1
    obtain ⟨rfl, _, rfl⟩ := e2
    exact ⟨fun b hb' => by cases hb'; exact Nat.le_refl _, hb0.trans hb (fun x hx => .inr (by simp [Value.ownBlock] at hx; omega))⟩
  · refine ⟨fun b hb' => ?_, hb0.trans hb (by simp)⟩
    rw [hn] at hb'
    cases hb'
    omega
theorem fresh_atP (w0 : World) (e : TypeId) : OwnP (w0.alloc (.cells #[] e)) e (.slice (some ⟨w0.heap.size, 0, none⟩) 0 0) [] := .inr ⟨w0.heap.size, 0, #[], rfl, al_at _ _, Nat.le_refl _, by unfold maxLen; omega, by simp, fun j u h => by simp [flatP] at h⟩
end Go.Proofs.Ytpoinhfkgnkedaa.M
