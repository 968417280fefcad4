/-
  Plain: scalars in a row of one's own: append. No program.
-/
import Derived.Test.YtmbmmcippglfoaaGF
import Derived.Test.YtmbmmcippglfoaaGA
import Derived.Test.YtmbmmcippglfoaaGC
namespace Go.Proofs.Ytmbmmcippglfoaa.M
open Go.RowKit
set_option linter.unusedVariables false
set_option linter.unusedSectionVars false
set_option linter.unusedSimpArgs false
def rcells (x : Sc) : List Value := [.int .u64 x.t.v, .int .u64 x.t.m, .int .u64 x.s.lo, .int .u64 x.s.hi, .int .i64 x.s.sl, .int .i64 x.s.sh]
def flatS (l : List Sc) : List Value := l.flatMap rcells
theorem flatS_len (l : List Sc) : (flatS l).length = l.length * 6 := by
  unfold flatS
  induction l with
  | nil => rfl
  | cons x l ih =>
    simp only [List.flatMap_cons, List.length_append, ih, List.length_cons]
    show 6 + _ = _
    omega
theorem flatS_cons (x : Sc) (l : List Sc) : flatS (x :: l) = .int .u64 x.t.v :: .int .u64 x.t.m :: .int .u64 x.s.lo :: .int .u64 x.s.hi :: .int .i64 x.s.sl :: .int .i64 x.s.sh :: flatS l := rfl
theorem flatS_append (l m : List Sc) : flatS (l ++ m) = flatS l ++ flatS m := by unfold flatS; rw [List.flatMap_append]
theorem flatS_at : ∀ (l : List Sc) (i : Nat) (x : Sc), l[i]? = some x → (flatS l)[i * 6 + 0]? = some (.int .u64 x.t.v) ∧ (flatS l)[i * 6 + 1]? = some (.int .u64 x.t.m) ∧ (flatS l)[i * 6 + 2]? = some (.int .u64 x.s.lo) ∧ (flatS l)[i * 6 + 3]? = some (.int .u64 x.s.hi) ∧ (flatS l)[i * 6 + 4]? = some (.int .i64 x.s.sl) ∧ (flatS l)[i * 6 + 5]? = some (.int .i64 x.s.sh)
  | [], i, x, h => by simp at h
  | y :: l, 0, x, h => by
    simp at h
    subst h
    exact ⟨rfl, rfl, rfl, rfl, rfl, rfl⟩
  | y :: l, i + 1, x, h => by
    have h1 := flatS_at l i x (by simpa using h)
    rw [flatS_cons, show (i + 1) * 6 + 0 = i * 6 + 0 + 1 + 1 + 1 + 1 + 1 + 1 by omega, show (i + 1) * 6 + 1 = i * 6 + 1 + 1 + 1 + 1 + 1 + 1 + 1 by omega, show (i + 1) * 6 + 2 = i * 6 + 2 + 1 + 1 + 1 + 1 + 1 + 1 by omega, show (i + 1) * 6 + 3 = i * 6 + 3 + 1 + 1 + 1 + 1 + 1 + 1 by omega, show (i + 1) * 6 + 4 = i * 6 + 4 + 1 + 1 + 1 + 1 + 1 + 1 by omega, show (i + 1) * 6 + 5 = i * 6 + 5 + 1 + 1 + 1 + 1 + 1 + 1 by omega]
    exact h1
theorem flatS_one (l : List Sc) : ∀ u ∈ flatS l, u.oneCell' = true := fun u hu => by
  unfold flatS at hu
  obtain ⟨x, _, h⟩ := List.mem_flatMap.1 hu
  simp only [rcells, List.mem_cons, List.not_mem_nil, or_false] at h
  rcases h with rfl | rfl | rfl | rfl | rfl | rfl <;> rfl
def OwnS (w : World) (e : TypeId) (v : Value) (l : List Sc) : Prop :=
  (v = .slice none 0 0 ∧ l = []) ∨ ∃ g cap cur, v = .slice (some ⟨g, 0, none⟩) l.length cap ∧ w.heap[g]? = some (.cells cur e (0, 0)) ∧ l.length ≤ cap ∧ cap ≤ maxLen ∧ cap * 6 ≤ cur.size ∧ ∀ (j : Nat) (u : Value), (flatS l)[j]? = some u → cur[j]? = some u
section
variable {w w' : World} {e : TypeId} {v : Value} {l : List Sc}
theorem OwnS.nil (w : World) (e : TypeId) : OwnS w e (.slice none 0 0) [] := .inl ⟨rfl, rfl⟩
theorem OwnS.form (h : OwnS w e v l) : ∃ a c, v = .slice a l.length c := by
  rcases h with ⟨rfl, rfl⟩ | ⟨g, cap, cur, rfl, _⟩
  · exact ⟨none, 0, rfl⟩
  · exact ⟨_, _, rfl⟩
theorem OwnS.tag (h : OwnS w e v l) {b : Nat} (hb : v.ownBlock = some b) : ∃ cur, w.heap[b]? = some (.cells cur e) := by
  rcases h with ⟨rfl, rfl⟩ | ⟨g, cap, cur, rfl, h1, _⟩
  · cases hb
  · cases hb; exact ⟨cur, h1⟩
theorem OwnS.lt (h : OwnS w e v l) {b : Nat} (hb : v.ownBlock = some b) : b < w.heap.size := by
  obtain ⟨cur, hc⟩ := h.tag hb
  exact lt_of hc
theorem OwnS.but {L : List Nat} (h : OwnS w e v l) (hb : But L w w') (hn : ∀ b, v.ownBlock = some b → b ∉ L) : OwnS w' e v l := by
  rcases h with h | ⟨g, cap, cur, rfl, h1, h2⟩
  · exact .inl h
  · exact .inr ⟨g, cap, cur, rfl, hb.heap h1 (hn g rfl), h2⟩
theorem OwnS.ne {e' : TypeId} {v' : Value} {ys : List Value} (h : OwnS w e v l) (h' : OwnQ w e' v' ys) (he : e' ≠ e) {b : Nat} (hb : v.ownBlock = some b) (hb' : v'.ownBlock = some b) : False := by
  obtain ⟨cur, hc⟩ := h.tag hb
  obtain ⟨cur', hc'⟩ := h'.tag b hb'
  rw [hc] at hc'
  simp only [Option.some.injEq, Obj.cells.injEq] at hc'
  exact he hc'.2.1.symm
theorem OwnS.len {a : Option Addr} {n c : Nat} (h : OwnS w e (.slice a n c) l) : l.length = n := by
  obtain ⟨a', c', e⟩ := h.form
  cases e; rfl
theorem OwnS.cap {a : Option Addr} {n c : Nat} (h : OwnS w e (.slice a n c) l) : n ≤ c ∧ c ≤ maxLen := by
  rcases h with ⟨e, rfl⟩ | ⟨g, cap, cur, e, _, h1, h2, _⟩
  · cases e; exact ⟨Nat.le_refl _, Nat.zero_le _⟩
  · cases e; exact ⟨h1, h2⟩
theorem OwnS.addr {a : Option Addr} {n c : Nat} (h : OwnS w e (.slice a n c) l) (hn : 0 < n) : ∃ g, a = some ⟨g, 0, none⟩ := by
  have hl := h.len
  rcases h with ⟨e, rfl⟩ | ⟨g, cap, cur, e, _⟩
  · simp at hl; omega
  · cases e; exact ⟨g, rfl⟩
/-- The cells of a record. -/
theorem OwnS.at6 {g n c : Nat} (h : OwnS w e (.slice (some ⟨g, 0, none⟩) n c) l) {i : Nat} {x : Sc} (hx : l[i]? = some x) : w.cell? ⟨g, i * 6 + 0, none⟩ = some (.int .u64 x.t.v) ∧ w.cell? ⟨g, i * 6 + 1, none⟩ = some (.int .u64 x.t.m) ∧ w.cell? ⟨g, i * 6 + 2, none⟩ = some (.int .u64 x.s.lo) ∧ w.cell? ⟨g, i * 6 + 3, none⟩ = some (.int .u64 x.s.hi) ∧ w.cell? ⟨g, i * 6 + 4, none⟩ = some (.int .i64 x.s.sl) ∧ w.cell? ⟨g, i * 6 + 5, none⟩ = some (.int .i64 x.s.sh) := by
  rcases h with ⟨e, _⟩ | ⟨g', cap, cur, e, h1, _, _, _, h5⟩
  · cases e
  · cases e
    obtain ⟨k0, k1, k2, k3, k4, k5⟩ := flatS_at l i x hx
    exact ⟨by rw [cl_of h1]; exact h5 _ _ k0, by rw [cl_of h1]; exact h5 _ _ k1, by rw [cl_of h1]; exact h5 _ _ k2, by rw [cl_of h1]; exact h5 _ _ k3, by rw [cl_of h1]; exact h5 _ _ k4, by rw [cl_of h1]; exact h5 _ _ k5⟩
end
/-- Behind an append of records. -/
def AppS (w w' : World) (e : TypeId) (v v' : Value) (l news : List Sc) : Prop :=
  OwnS w' e v' (l ++ news) ∧ ((∃ a cap, v = .slice a l.length cap ∧ v' = .slice a (l.length + news.length) cap ∧ But v.ownBlock.toList w w') ∨ (v'.ownBlock = some w.heap.size ∧ But [] w w'))
section
variable {P : Program} {w : World}
theorem run_append_s (t ty e : TypeId) (i : TypeInfo) (z : Value) (bytes : Nat) (ht : P.underlying t = some (.slice e)) (hi : P.info? e = some i) (hz : i.zero = some z) (hsize : i.size = 6) (hby : i.bytes = bytes) (hzs : z.cells.size = 6)
    (v : Value) (l : List Sc) (h : OwnS w e v l) (x : Value) (news : List Sc) (hsrc : Src P i.size t x news.length (flatS news) w) (h63 : l.length + news.length ≤ maxLen) (hbytes : (l.length + news.length) * bytes ≤ 140737488355328) :
    ∃ v' w', (Builtin.append_ #[t, t] ty #[v, x]).run P w = .ok v' w' ∧ AppS w w' e v v' l news := by
  have hfl := flatS_len l
  have hfn := flatS_len news
  have grow : ∀ (bs : Option Addr) (sc : Nat), v = .slice bs l.length sc → sc < l.length + news.length →
      (Builtin.firstCells i.size l.length (.slice bs l.length sc)).run P w.drew = .ok (flatS l).toArray w.drew →
      ∃ v' w', (Builtin.append_ #[t, t] ty #[v, x]).run P w = .ok v' w' ∧ AppS w w' e v v' l news := by
    rintro bs sc rfl hg hold
    have hrun := run_append_grow_src (P := P) w t t ty e i z ht hi hz bs l.length sc (flatS l) hold x news.length (flatS news) hsrc hg (by simp only [maxLen] at h63; omega) (growslice_fits hg (by rw [hby]; exact hbytes))
    have hge := grownCap_ge w (l.length + news.length) sc e
    have hcm := grownCap_le_maxLen w (l.length + news.length) sc e h63
    refine ⟨_, _, hrun, .inr ⟨w.heap.size, _, _, by rw [List.length_append], Array.getElem?_push_size, by rw [List.length_append]; exact hge, hcm, ?_, fun j u hj => ?_⟩, .inr ⟨rfl, (But.refl [] w).drew.alloc _⟩⟩
    · rw [Array.size_append, List.size_toArray, size_zeroCells, hzs, List.length_append, hfl, hfn]
      omega
    · rw [flatS_append] at hj
      have hjl := (List.getElem?_eq_some_iff.1 hj).1
      rw [Array.getElem?_append_left (by simpa using hjl), List.getElem?_toArray]
      exact hj
  rcases id h with ⟨rfl, rfl⟩ | ⟨g, cap, cur, rfl, hg, hc, hm, hs, hxs⟩
  · by_cases h0 : news.length = 0
    · obtain rfl : news = [] := List.eq_nil_of_length_eq_zero h0
      exact ⟨_, _, run_append_nothing (P := P) w t t ty e i ht hi none 0 0 (Nat.le_refl _) x hsrc, .inl ⟨rfl, rfl⟩, .inl ⟨none, 0, rfl, rfl, But.refl _ _⟩⟩
    · exact grow none 0 rfl (by simp; omega) (run_firstCells_none w.drew i.size 0 0 0)
  · by_cases hroom : l.length + news.length ≤ cap
    · have hcell : ∀ j, j < cap * 6 → (w.cell? ⟨g, j, none⟩).isSome = true ∧ w.frozen? ⟨g, j, none⟩ = false := fun j h2 => by
        unfold World.cell? World.frozen?
        rw [hg]
        simp only [Option.isNone_none]
        refine ⟨?_, by simp⟩
        have : j < cur.size := by omega
        simp [this]
      have hrun := run_append_room_src (P := P) w t t ty e i ht hi g 0 l.length cap x news.length (flatS news) hsrc hroom
        (fun j hj => by rw [hsize, Nat.zero_add]; exact (hcell _ (by omega)).1)
        (fun j hj => by rw [hsize, Nat.zero_add]; exact (hcell _ (by omega)).2)
      rw [hsize, Nat.zero_add] at hrun
      obtain ⟨cur', k1, k2, k3, k4, _⟩ := cells_set (t := e) (g := g) (news := flatS news) (cur := cur) (o := l.length * 6) (w := w) hg (by omega)
      refine ⟨_, _, hrun, .inr ⟨g, cap, cur', by rw [List.length_append], k1, by rw [List.length_append]; exact hroom, hm, by omega, fun j u hj => ?_⟩, .inl ⟨some ⟨g, 0, none⟩, cap, rfl, rfl, but_setCells g (flatS news) _ w⟩⟩
      rw [flatS_append] at hj
      by_cases hjx : j < l.length * 6
      · rw [k3 j hjx, hxs j u (by rw [List.getElem?_append_left (by omega)] at hj; exact hj)]
      · rw [List.getElem?_append_right (by omega)] at hj
        rw [← k4 (j - l.length * 6) u (by rw [← hfl]; exact hj)]
        congr 1
        omega
    · refine grow (some ⟨g, 0, none⟩) cap rfl (by omega) (run_firstCells_some w.drew i.size l.length ⟨g, 0, none⟩ l.length cap (flatS l) (by rw [hsize]; exact hfl) (fun j u hj => ?_))
      rw [add_at, Nat.zero_add]
      show w.cell? _ = _
      unfold World.cell?
      rw [hg]
      exact hxs j u hj
theorem wpList_append_s {ops : Array Oper} {rest : List Oper} {op : Oper} {a : Act} {Q : Exit → Act → World → Prop} (hgd : op.guard = none) (s x : Operand) (t : TypeId)
    (ho : op.op = .call { callee := .builtin .append, args := #[s, x], argTypes := #[t, t] })
    (e : TypeId) (i : TypeInfo) (z : Value) (bytes : Nat) (ht : P.underlying t = some (.slice e)) (hi : P.info? e = some i) (hz : i.zero = some z)
    (hsize : i.size = 6) (hby : i.bytes = bytes) (hzs : z.cells.size = 6)
    (v : Value) (l : List Sc) (hs : a.eval s = v) (hown : OwnS w e v l) (news : List Sc) (y : Value) (hx : a.eval x = y) (hsrc : Src P i.size t y news.length (flatS news) w)
    (h63 : l.length + news.length ≤ maxLen) (hbytes : (l.length + news.length) * bytes ≤ 140737488355328)
    (h : ∀ v' w', AppS w w' e v v' l news → wpList P ops Q rest (a.put op.dst v') w') :
    wpList P ops Q (op :: rest) a w := by
  refine wpList_plain hgd fun K hK => ?_
  obtain ⟨v', w', hr, h2⟩ := run_append_s (P := P) t op.type e i z bytes ht hi hz hsize hby hzs v l hown y news hsrc h63 hbytes
  unfold Oper.wp execOp
  simp only [ho, resolve, invoke, builtin, Sem.run_bind, Sem.run_pure, Result.andThen_ok, List.map_toArray, List.map_cons, List.map_nil, hs, hx, hr]
  exact hK _ _ (h v' w' h2)
theorem step_append_s {ops : Array Oper} {o : Oper} {a : Act} {K : Act → World → Prop} {Q : Exit → Act → World → Prop} {E : Prop} (hgd : o.guard = none) (s x : Operand) (t : TypeId)
    (ho : o.op = .call { callee := .builtin .append, args := #[s, x], argTypes := #[t, t] })
    (e : TypeId) (i : TypeInfo) (z : Value) (bytes : Nat) (ht : P.underlying t = some (.slice e)) (hi : P.info? e = some i) (hz : i.zero = some z)
    (hsize : i.size = 6) (hby : i.bytes = bytes) (hzs : z.cells.size = 6)
    (v : Value) (l : List Sc) (hs : a.eval s = v) (hown : OwnS w e v l) (news : List Sc) (y : Value) (hx : a.eval x = y) (hsrc : Src P i.size t y news.length (flatS news) w)
    (h63 : l.length + news.length ≤ maxLen) (hbytes : (l.length + news.length) * bytes ≤ 140737488355328)
    (h : ∀ v' w', AppS w w' e v v' l news → K (a.put o.dst v') w') :
    if Region.wanted o (yielded ops a.tmps) = true then Oper.wp P o a w K Q else E := by
  have hw : Region.wanted o (yielded ops a.tmps) = true := by simp [Region.wanted, hgd]
  rw [if_pos hw]
  obtain ⟨v', w', hr, h2⟩ := run_append_s (P := P) t o.type e i z bytes ht hi hz hsize hby hzs v l hown y news hsrc h63 hbytes
  unfold Oper.wp
  simp only [execOp, ho, resolve, invoke, builtin, Sem.run_bind, Sem.run_pure, Result.andThen_ok, List.map_toArray, List.map_cons, List.map_nil, hs, hx, hr]
  exact h v' w' h2
end
end Go.Proofs.Ytmbmmcippglfoaa.M
