/-
  Merged: RowP, RefLS, RefLO, RefLP, RefLQ, CopyS, RefLR.
-/
import Derived.Test.YtifgfnifadmoaaaRow
import Derived.Test.YtifgfnifadmoaaaOwnQ
import Derived.Test.YtifgfnifadmoaaaAlloc
import Derived.Test.YtifgfnifadmoaaaRefLN
import Derived.Test.YtifgfnifadmoaaaLruP
import Derived.BigQuiet
import Derived.Deep.RegionLaw
import Derived.OwnWalk
import Derived.Test.YtifgfnifadmoaaaCopyB
import Derived.Test.YtifgfnifadmoaaaLruQ
import Derived.Test.YtifgfnifadmoaaaPlacesP
namespace Go.Proofs.Ytifgfnifadmoaaa.M
open Go.RowKit
set_option linter.unusedVariables false
set_option linter.unusedSectionVars false
set_option linter.unusedSimpArgs false
abbrev Rec := ByteArray × Nat
def rcells (x : Rec) : List Value := [.string x.1, .int .i64 x.2]
def flatP (l : List Rec) : List Value := l.flatMap rcells
theorem flatP_len (l : List Rec) : (flatP l).length = l.length * 2 := by
  unfold flatP
  induction l with
  | nil => rfl
  | cons x l ih =>
    simp only [List.flatMap_cons, List.length_append, ih, List.length_cons]
    show 2 + _ = _
    omega
theorem flatP_cons (x : Rec) (l : List Rec) : flatP (x :: l) = .string x.1 :: .int .i64 x.2 :: flatP l := rfl
theorem flatP_append (l m : List Rec) : flatP (l ++ m) = flatP l ++ flatP m := by unfold flatP; rw [List.flatMap_append]
theorem flatP_at : ∀ (l : List Rec) (i : Nat) (x : Rec), l[i]? = some x → (flatP l)[i * 2]? = some (.string x.1) ∧ (flatP l)[i * 2 + 1]? = some (.int .i64 x.2)
  | [], i, x, h => by simp at h
  | y :: l, 0, x, h => by
    simp at h
    subst h
    exact ⟨rfl, rfl⟩
  | y :: l, i + 1, x, h => by
    have h1 := flatP_at l i x (by simpa using h)
    rw [flatP_cons, show (i + 1) * 2 = i * 2 + 1 + 1 by omega]
    exact h1
theorem flatP_one (l : List Rec) : ∀ u ∈ flatP l, u.oneCell' = true := fun u hu => by
  unfold flatP at hu
  obtain ⟨x, _, h⟩ := List.mem_flatMap.1 hu
  simp only [rcells, List.mem_cons, List.not_mem_nil, or_false] at h
  rcases h with rfl | rfl <;> rfl
def OwnP (w : World) (e : TypeId) (v : Value) (l : List Rec) : Prop :=
  (v = .slice none 0 0 ∧ l = []) ∨ ∃ g cap cur, v = .slice (some ⟨g, 0, none⟩) l.length cap ∧ w.heap[g]? = some (.cells cur e (0, 0)) ∧ l.length ≤ cap ∧ cap ≤ maxLen ∧ cap * 2 ≤ cur.size ∧ ∀ (j : Nat) (u : Value), (flatP l)[j]? = some u → cur[j]? = some u
section
variable {w w' : World} {e : TypeId} {v : Value} {l : List Rec}
theorem OwnP.nil (w : World) (e : TypeId) : OwnP w e (.slice none 0 0) [] := .inl ⟨rfl, rfl⟩
theorem OwnP.form (h : OwnP w e v l) : ∃ a c, v = .slice a l.length c := by
  rcases h with ⟨rfl, rfl⟩ | ⟨g, cap, cur, rfl, _⟩
  · exact ⟨none, 0, rfl⟩
  · exact ⟨_, _, rfl⟩
theorem OwnP.tag (h : OwnP w e v l) {b : Nat} (hb : v.ownBlock = some b) : ∃ cur, w.heap[b]? = some (.cells cur e) := by
  rcases h with ⟨rfl, rfl⟩ | ⟨g, cap, cur, rfl, h1, _⟩
  · cases hb
  · cases hb; exact ⟨cur, h1⟩
theorem OwnP.lt (h : OwnP w e v l) {b : Nat} (hb : v.ownBlock = some b) : b < w.heap.size := by
  obtain ⟨cur, hc⟩ := h.tag hb
  exact lt_of hc
theorem OwnP.but {L : List Nat} (h : OwnP w e v l) (hb : But L w w') (hn : ∀ b, v.ownBlock = some b → b ∉ L) : OwnP w' e v l := by
  rcases h with h | ⟨g, cap, cur, rfl, h1, h2⟩
  · exact .inl h
  · exact .inr ⟨g, cap, cur, rfl, hb.heap h1 (hn g rfl), h2⟩
theorem OwnP.ne {e' : TypeId} {v' : Value} {ys : List Value} (h : OwnP w e v l) (h' : OwnQ w e' v' ys) (he : e' ≠ e) {b : Nat} (hb : v.ownBlock = some b) (hb' : v'.ownBlock = some b) : False := by
  obtain ⟨cur, hc⟩ := h.tag hb
  obtain ⟨cur', hc'⟩ := h'.tag b hb'
  rw [hc] at hc'
  simp only [Option.some.injEq, Obj.cells.injEq] at hc'
  exact he hc'.2.1.symm
theorem OwnP.len {a : Option Addr} {n c : Nat} (h : OwnP w e (.slice a n c) l) : l.length = n := by
  obtain ⟨a', c', e⟩ := h.form
  cases e; rfl
theorem OwnP.cap {a : Option Addr} {n c : Nat} (h : OwnP w e (.slice a n c) l) : n ≤ c ∧ c ≤ maxLen := by
  rcases h with ⟨e, rfl⟩ | ⟨g, cap, cur, e, _, h1, h2, _⟩
  · cases e; exact ⟨Nat.le_refl _, Nat.zero_le _⟩
  · cases e; exact ⟨h1, h2⟩
theorem OwnP.addr {a : Option Addr} {n c : Nat} (h : OwnP w e (.slice a n c) l) (hn : 0 < n) : ∃ g, a = some ⟨g, 0, none⟩ := by
  have hl := h.len
  rcases h with ⟨e, rfl⟩ | ⟨g, cap, cur, e, _⟩
  · simp at hl; omega
  · cases e; exact ⟨g, rfl⟩
/-- The two cells of a record. -/
theorem OwnP.at2 {g n c : Nat} (h : OwnP w e (.slice (some ⟨g, 0, none⟩) n c) l) {i : Nat} {x : Rec} (hx : l[i]? = some x) : w.cell? ⟨g, i * 2, none⟩ = some (.string x.1) ∧ w.cell? ⟨g, i * 2 + 1, none⟩ = some (.int .i64 x.2) := by
  rcases h with ⟨e, _⟩ | ⟨g', cap, cur, e, h1, _, _, _, h5⟩
  · cases e
  · cases e
    obtain ⟨k1, k2⟩ := flatP_at l i x hx
    exact ⟨by rw [cl_of h1]; exact h5 _ _ k1, by rw [cl_of h1]; exact h5 _ _ k2⟩
end
/-- Behind an append of records. -/
def AppP (w w' : World) (e : TypeId) (v v' : Value) (l news : List Rec) : Prop :=
  OwnP w' e v' (l ++ news) ∧ ((∃ a cap, v = .slice a l.length cap ∧ v' = .slice a (l.length + news.length) cap ∧ But v.ownBlock.toList w w') ∨ (v'.ownBlock = some w.heap.size ∧ But [] w w'))
section
variable {P : Program} {w : World}
theorem run_append_p (t ty e : TypeId) (i : TypeInfo) (z : Value) (bytes : Nat) (ht : P.underlying t = some (.slice e)) (hi : P.info? e = some i) (hz : i.zero = some z) (hsize : i.size = 2) (hby : i.bytes = bytes) (hzs : z.cells.size = 2)
    (v : Value) (l : List Rec) (h : OwnP w e v l) (x : Value) (news : List Rec) (hsrc : Src P i.size t x news.length (flatP news) w) (h63 : l.length + news.length ≤ maxLen) (hbytes : (l.length + news.length) * bytes ≤ 140737488355328) :
    ∃ v' w', (Builtin.append_ #[t, t] ty #[v, x]).run P w = .ok v' w' ∧ AppP w w' e v v' l news := by
  have hfl := flatP_len l
  have hfn := flatP_len news
  have grow : ∀ (bs : Option Addr) (sc : Nat), v = .slice bs l.length sc → sc < l.length + news.length →
      (Builtin.firstCells i.size l.length (.slice bs l.length sc)).run P w.drew = .ok (flatP l).toArray w.drew →
      ∃ v' w', (Builtin.append_ #[t, t] ty #[v, x]).run P w = .ok v' w' ∧ AppP w w' e v v' l news := by
    rintro bs sc rfl hg hold
    have hrun := run_append_grow_src (P := P) w t t ty e i z ht hi hz bs l.length sc (flatP l) hold x news.length (flatP news) hsrc hg (by simp only [maxLen] at h63; omega) (growslice_fits hg (by rw [hby]; exact hbytes))
    have hge := grownCap_ge w (l.length + news.length) sc e
    have hcm := grownCap_le_maxLen w (l.length + news.length) sc e h63
    refine ⟨_, _, hrun, .inr ⟨w.heap.size, _, _, by rw [List.length_append], Array.getElem?_push_size, by rw [List.length_append]; exact hge, hcm, ?_, fun j u hj => ?_⟩, .inr ⟨rfl, (But.refl [] w).drew.alloc _⟩⟩
    · rw [Array.size_append, List.size_toArray, size_zeroCells, hzs, List.length_append, hfl, hfn]
      omega
    · rw [flatP_append] at hj
      have hjl := (List.getElem?_eq_some_iff.1 hj).1
      rw [Array.getElem?_append_left (by simpa using hjl), List.getElem?_toArray]
      exact hj
  rcases id h with ⟨rfl, rfl⟩ | ⟨g, cap, cur, rfl, hg, hc, hm, hs, hxs⟩
  · by_cases h0 : news.length = 0
    · obtain rfl : news = [] := List.eq_nil_of_length_eq_zero h0
      exact ⟨_, _, run_append_nothing (P := P) w t t ty e i ht hi none 0 0 (Nat.le_refl _) x hsrc, .inl ⟨rfl, rfl⟩, .inl ⟨none, 0, rfl, rfl, But.refl _ _⟩⟩
    · exact grow none 0 rfl (by simp; omega) (run_firstCells_none w.drew i.size 0 0 0)
  · by_cases hroom : l.length + news.length ≤ cap
    · have hcell : ∀ j, j < cap * 2 → (w.cell? ⟨g, j, none⟩).isSome = true ∧ w.frozen? ⟨g, j, none⟩ = false := fun j h2 => by
        unfold World.cell? World.frozen?
        rw [hg]
        simp only [Option.isNone_none]
        refine ⟨?_, by simp⟩
        have : j < cur.size := by omega
        simp [this]
      have hrun := run_append_room_src (P := P) w t t ty e i ht hi g 0 l.length cap x news.length (flatP news) hsrc hroom
        (fun j hj => by rw [hsize, Nat.zero_add]; exact (hcell _ (by omega)).1)
        (fun j hj => by rw [hsize, Nat.zero_add]; exact (hcell _ (by omega)).2)
      rw [hsize, Nat.zero_add] at hrun
      obtain ⟨cur', k1, k2, k3, k4, _⟩ := cells_set (t := e) (g := g) (news := flatP news) (cur := cur) (o := l.length * 2) (w := w) hg (by omega)
      refine ⟨_, _, hrun, .inr ⟨g, cap, cur', by rw [List.length_append], k1, by rw [List.length_append]; exact hroom, hm, by omega, fun j u hj => ?_⟩, .inl ⟨some ⟨g, 0, none⟩, cap, rfl, rfl, but_setCells g (flatP news) _ w⟩⟩
      rw [flatP_append] at hj
      by_cases hjx : j < l.length * 2
      · rw [k3 j hjx, hxs j u (by rw [List.getElem?_append_left (by omega)] at hj; exact hj)]
      · rw [List.getElem?_append_right (by omega)] at hj
        rw [← k4 (j - l.length * 2) u (by rw [← hfl]; exact hj)]
        congr 1
        omega
    · refine grow (some ⟨g, 0, none⟩) cap rfl (by omega) (run_firstCells_some w.drew i.size l.length ⟨g, 0, none⟩ l.length cap (flatP l) (by rw [hsize]; exact hfl) (fun j u hj => ?_))
      rw [add_at, Nat.zero_add]
      show w.cell? _ = _
      unfold World.cell?
      rw [hg]
      exact hxs j u hj
theorem wpList_append_p {ops : Array Oper} {rest : List Oper} {op : Oper} {a : Act} {Q : Exit → Act → World → Prop} (hgd : op.guard = none) (s x : Operand) (t : TypeId)
    (ho : op.op = .call { callee := .builtin .append, args := #[s, x], argTypes := #[t, t] })
    (e : TypeId) (i : TypeInfo) (z : Value) (bytes : Nat) (ht : P.underlying t = some (.slice e)) (hi : P.info? e = some i) (hz : i.zero = some z)
    (hsize : i.size = 2) (hby : i.bytes = bytes) (hzs : z.cells.size = 2)
    (v : Value) (l : List Rec) (hs : a.eval s = v) (hown : OwnP w e v l) (news : List Rec) (y : Value) (hx : a.eval x = y) (hsrc : Src P i.size t y news.length (flatP news) w)
    (h63 : l.length + news.length ≤ maxLen) (hbytes : (l.length + news.length) * bytes ≤ 140737488355328)
    (h : ∀ v' w', AppP w w' e v v' l news → wpList P ops Q rest (a.put op.dst v') w') :
    wpList P ops Q (op :: rest) a w := by
  refine wpList_plain hgd fun K hK => ?_
  obtain ⟨v', w', hr, h2⟩ := run_append_p (P := P) t op.type e i z bytes ht hi hz hsize hby hzs v l hown y news hsrc h63 hbytes
  unfold Oper.wp execOp
  simp only [ho, resolve, invoke, builtin, Sem.run_bind, Sem.run_pure, Result.andThen_ok, List.map_toArray, List.map_cons, List.map_nil, hs, hx, hr]
  exact hK _ _ (h v' w' h2)
theorem step_append_p {ops : Array Oper} {o : Oper} {a : Act} {K : Act → World → Prop} {Q : Exit → Act → World → Prop} {E : Prop} (hgd : o.guard = none) (s x : Operand) (t : TypeId)
    (ho : o.op = .call { callee := .builtin .append, args := #[s, x], argTypes := #[t, t] })
    (e : TypeId) (i : TypeInfo) (z : Value) (bytes : Nat) (ht : P.underlying t = some (.slice e)) (hi : P.info? e = some i) (hz : i.zero = some z)
    (hsize : i.size = 2) (hby : i.bytes = bytes) (hzs : z.cells.size = 2)
    (v : Value) (l : List Rec) (hs : a.eval s = v) (hown : OwnP w e v l) (news : List Rec) (y : Value) (hx : a.eval x = y) (hsrc : Src P i.size t y news.length (flatP news) w)
    (h63 : l.length + news.length ≤ maxLen) (hbytes : (l.length + news.length) * bytes ≤ 140737488355328)
    (h : ∀ v' w', AppP w w' e v v' l news → K (a.put o.dst v') w') :
    if Region.wanted o (yielded ops a.tmps) = true then Oper.wp P o a w K Q else E := by
  have hw : Region.wanted o (yielded ops a.tmps) = true := by simp [Region.wanted, hgd]
  rw [if_pos hw]
  obtain ⟨v', w', hr, h2⟩ := run_append_p (P := P) t o.type e i z bytes ht hi hz hsize hby hzs v l hown y news hsrc h63 hbytes
  unfold Oper.wp
  simp only [execOp, ho, resolve, invoke, builtin, Sem.run_bind, Sem.run_pure, Result.andThen_ok, List.map_toArray, List.map_cons, List.map_nil, hs, hx, hr]
  exact h v' w' h2
/-- A part of a row, as what is appended. -/
theorem OwnP.part {e t : TypeId} (hk : P.underlying t = some (.slice e)) {g n c : Nat} {l : List Rec} (h : OwnP w e (.slice (some ⟨g, 0, none⟩) n c) l) (k m c' : Nat) (hm : k + m ≤ l.length) : Src P 2 t (.slice (some ⟨g, k * 2, none⟩) m c') ((l.drop k).take m).length (flatP ((l.drop k).take m)) w := by
  have hl : ((l.drop k).take m).length = m := by rw [List.length_take, List.length_drop]; omega
  rw [hl]
  refine Src.ofSlice w hk ⟨g, k * 2, none⟩ m c' _ (by rw [flatP_len, hl]) (fun j u hj => ?_) (flatP_one _)
  rcases h with ⟨e, _⟩ | ⟨g', cap, cur, e, h1, _, _, _, h5⟩
  · cases e
  · cases e
    rw [add_at, cl_of h1]
    refine h5 _ _ ?_
    have e1 : l = l.take k ++ ((l.drop k).take m ++ (l.drop k).drop m) := by rw [List.take_append_drop, List.take_append_drop]
    have hkl : (flatP (l.take k)).length = k * 2 := by rw [flatP_len, List.length_take]; omega
    rw [e1, flatP_append, flatP_append, List.getElem?_append_right (by omega), hkl, Nat.add_sub_cancel_left, List.getElem?_append_left (List.getElem?_eq_some_iff.1 hj).1]
    exact hj
/-- Nothing to append. -/
theorem src_none {t e : TypeId} (hk : P.underlying t = some (.slice e)) (a : Addr) (c : Nat) : Src P 2 t (.slice (some a) 0 c) ([] : List Rec).length (flatP []) w :=
  Src.ofSlice w hk a 0 c [] (by simp) (fun j u hj => by simp at hj) (fun u hu => by cases hu)
end
/-- A row that is laid anew: an append to none. -/
theorem freshP {w0 wA w5 : World} {e : TypeId} {v' : Value} {xs : List Rec} (hb0 : But [] w0 wA) (hz : w0.heap.size < wA.heap.size) (hap : AppP wA w5 e (.slice (some ⟨w0.heap.size, 0, none⟩) 0 0) v' [] xs) : ∃ a c, v' = .slice a xs.length c ∧ OwnP w5 e (.slice a xs.length c) xs ∧ (∀ b, (Value.slice a xs.length c).ownBlock = some b → w0.heap.size ≤ b) ∧ But [] w0 w5 := by
  obtain ⟨hq, hc⟩ := hap
  rw [List.nil_append] at hq
  obtain ⟨a', c', rfl⟩ := hq.form
  refine ⟨a', c', rfl, hq, ?_⟩
  rcases hc with ⟨a2, cap, e1, e2, hb⟩ | ⟨hn, hb⟩
  · simp only [Value.slice.injEq] at e1 e2
    obtain ⟨rfl, _, rfl⟩ := e1
    obtain ⟨rfl, _, rfl⟩ := e2
    exact ⟨fun b hb' => by cases hb'; exact Nat.le_refl _, hb0.trans hb (fun x hx => .inr (by simp [Value.ownBlock] at hx; omega))⟩
  · refine ⟨fun b hb' => ?_, hb0.trans hb (by simp)⟩
    rw [hn] at hb'
    cases hb'
    omega
theorem fresh_atP (w0 : World) (e : TypeId) : OwnP (w0.alloc (.cells #[] e)) e (.slice (some ⟨w0.heap.size, 0, none⟩) 0 0) [] := .inr ⟨w0.heap.size, 0, #[], rfl, al_at _ _, Nat.le_refl _, by unfold maxLen; omega, by simp, fun j u h => by simp [flatP] at h⟩
end Go.Proofs.Ytifgfnifadmoaaa.M
namespace Go.Proofs.Ytifgfnifadmoaaa.M
open Go.RowKit
set_option linter.unusedVariables false
set_option linter.unusedSectionVars false
set_option linter.unusedSimpArgs false
structure RoomR (w : World) (ok : Nat → Prop) (V N : Nat) (b : Option Addr) (d : Nat) (vals : List Value) (rows : List (List Int)) : Prop where
  own : OwnQ w 25 (.slice b vals.length d) vals
  okb : ∀ x, (Value.slice b vals.length d).ownBlock = some x → ok x
  len : vals.length = N ∧ rows.length = N
  each : ∀ (i : Nat) (v : Value) (r : List Int), vals[i]? = some v → rows[i]? = some r → OwnQ w 5 v (u8s r) ∧ (∀ x, v.ownBlock = some x → ok x) ∧ r.length = V ∧ ByteL r
  apart : ∀ (i j : Nat) (u v : Value) (x : Nat), vals[i]? = some u → vals[j]? = some v → u.ownBlock = some x → v.ownBlock = some x → i = j
/-- The reference's lru as it lies; all its blocks are among the right ones. -/
structure RefL (w : World) (ok : Nat → Prop) (R K V N : Nat) (A : LSt) (rows : List (List Int)) : Prop where
  okR : ok R
  lies : ∃ (a : Option Addr) (c : Nat) (b : Option Addr) (d : Nat) (vals : List Value), w.heap[R]? = some (.cells #[.int .u8 3, .int .i64 K, .int .i64 V, .int .i64 N, .slice a A.length c, .slice b vals.length d] 76) ∧ OwnP w 80 (.slice a A.length c) (enc A) ∧ (∀ x, (Value.slice a A.length c).ownBlock = some x → ok x) ∧ RoomR w ok V N b d vals rows
  keys : ∀ x ∈ A, ByteL x.1 ∧ x.2 < N
  len : A.length ≤ N
  bounds : (1 ≤ K ∧ K ≤ 64) ∧ (1 ≤ V ∧ V ≤ 1024) ∧ (1 ≤ N ∧ N ≤ 1024)
section
variable {w w' : World} {ok ok' : Nat → Prop} {R K V N : Nat} {A : LSt} {rows : List (List Int)}
theorem RoomR.keep {b : Option Addr} {d : Nat} {vals : List Value} {L : List Nat} (h : RoomR w ok V N b d vals rows) (hb : But L w w') (hL : ∀ x ∈ L, ¬ ok x) : RoomR w' ok V N b d vals rows :=
  ⟨h.own.but hb (fun x hx hm => hL x hm (h.okb x hx)), h.okb, h.len, fun i v r hv hr => ⟨(h.each i v r hv hr).1.but hb (fun x hx hm => hL x hm ((h.each i v r hv hr).2.1 x hx)), (h.each i v r hv hr).2⟩, h.apart⟩
theorem RoomR.also {b : Option Addr} {d : Nat} {vals : List Value} (h : RoomR w ok V N b d vals rows) (hk : ∀ x, x < w.heap.size → ok x → ok' x) : RoomR w ok' V N b d vals rows :=
  ⟨h.own, fun x hx => hk x (h.own.lt hx) (h.okb x hx), h.len, fun i v r hv hr => ⟨(h.each i v r hv hr).1, fun x hx => hk x ((h.each i v r hv hr).1.lt hx) ((h.each i v r hv hr).2.1 x hx), (h.each i v r hv hr).2.2⟩, h.apart⟩
theorem RefL.keep {L : List Nat} (h : RefL w ok R K V N A rows) (hb : But L w w') (hL : ∀ x ∈ L, ¬ ok x) : RefL w' ok R K V N A rows := by
  obtain ⟨h0, ⟨a, c, b, d, vals, h1, h2, h3, h4⟩, h5, h6, h7⟩ := h
  exact ⟨h0, ⟨a, c, b, d, vals, hb.heap h1 (fun hm => hL _ hm h0), h2.but hb (fun x hx hm => hL x hm (h3 x hx)), h3, h4.keep hb hL⟩, h5, h6, h7⟩
theorem RefL.also (h : RefL w ok R K V N A rows) (hk : ∀ x, x < w.heap.size → ok x → ok' x) : RefL w ok' R K V N A rows := by
  obtain ⟨h0, ⟨a, c, b, d, vals, h1, h2, h3, h4⟩, h5, h6, h7⟩ := h
  exact ⟨hk _ (lt_of h1) h0, ⟨a, c, b, d, vals, h1, h2, fun x hx => hk x (h2.lt hx) (h3 x hx), h4.also hk⟩, h5, h6, h7⟩
end
theorem str_eqb {a b : List Int} (h : a = b) : ((strOfNums a).toList == (strOfNums b).toList) = true := by rw [h]; exact beq_self_eq_true _
theorem str_neb {a b : List Int} (ha : ByteL a) (hb : ByteL b) (h : a ≠ b) : ((strOfNums a).toList == (strOfNums b).toList) = false := by
  rw [beq_eq_false_iff_ne]
  intro e
  rw [ByteArray.toList_eq, ByteArray.toList_eq] at e
  refine h (str_inj ha hb ?_)
  have e2 : (strOfNums a).data = (strOfNums b).data := Array.toList_inj.1 e
  exact ByteArray.ext e2
def findI (A : LSt) (ks : List Int) : Int := match findK A ks with | none => -1 | some k => k
/-- None of the first ones. -/
def NoneYet (A : LSt) (ks : List Int) (k : Nat) : Prop := ∀ (i : Nat) (x : List Int × Nat), i < k → A[i]? = some x → x.1 ≠ ks
theorem findI_here {A : LSt} {ks : List Int} {k : Nat} {x : List Int × Nat} (h : NoneYet A ks k) (hx : A[k]? = some x) (he : x.1 = ks) : findI A ks = k := by
  have h1 : findK A ks = some k := by
    unfold findK
    obtain ⟨hk, e⟩ := List.getElem?_eq_some_iff.1 hx
    refine List.findIdx?_eq_some_iff_getElem.2 ⟨hk, by rw [e]; simpa using he, fun j hj => ?_⟩
    have := h j A[j] hj (List.getElem?_eq_getElem _)
    simpa using this
  unfold findI
  rw [h1]
theorem findI_no {A : LSt} {ks : List Int} (h : NoneYet A ks A.length) : findI A ks = -1 := by
  have h1 : findK A ks = none := List.findIdx?_eq_none_iff.2 fun x hx => by
    obtain ⟨i, hi⟩ := List.getElem?_of_mem hx
    have := h i x (List.getElem?_eq_some_iff.1 hi).1 hi
    simpa using this
  unfold findI
  rw [h1]
theorem NoneYet.next {A : LSt} {ks : List Int} {k : Nat} {x : List Int × Nat} (h : NoneYet A ks k) (hx : A[k]? = some x) (hne : x.1 ≠ ks) : NoneYet A ks (k + 1) := fun i y hi hy => by
  by_cases e : i = k
  · subst e
    rw [hx] at hy
    cases hy
    exact hne
  · exact h i y (by omega) hy
theorem enc_get {A : LSt} {k : Nat} {x : List Int × Nat} (h : A[k]? = some x) : (enc A)[k]? = some (strOfNums x.1, x.2) := by
  unfold enc
  rw [List.getElem?_map, h]
  rfl
theorem find_nums {k n : Nat} (h : k < n) (hn : n ≤ 1024) : (0 : Int) ≤ k ∧ (k : Int) < n ∧ wrap64 ((k : Int) + 1) = (k : Int) + 1 ∧ IntKind.i64.wrap ((k : Int) + 1) = (k : Int) + 1 := by
  refine ⟨by omega, by omega, ?_, ?_⟩
  · rw [wrap64]; omega
  · rw [IntKind.wrap_i64]; omega
theorem find_meas {j n : Nat} (h : j < n) : n - (intOf (.int .i64 ((j : Int) + 1))).toNat < n - (intOf (.int .i64 (j : Int))).toNat := by
  simp only [intOf]
  omega
theorem num_eqR {k n : Nat} (h : k ≤ n) (h2 : ¬ k < n) : k = n := by omega
set_option maxRecDepth 100000 in
set_option maxHeartbeats 4000000 in
theorem refFind {w : World} {R n c : Nat} {a ka : Option Addr} {kc : Nat} {A : LSt} {ks : List Int} (h4 : w.cell? ⟨R, 4, none⟩ = some (.slice a A.length c)) (hP : OwnP w 80 (.slice a A.length c) (enc A)) (hA : ∀ x ∈ A, ByteL x.1) (hn : A.length ≤ 1024) (hs : Sees w (.slice ka n kc) (u8s ks)) (hk : ByteL ks) :
    Calls Try.prog 42 #[.pointer (some ⟨R, 0, none⟩), .slice ka n kc] w fun e w' => e = .returned (.int .i64 (findI A ks)) ∧ But [] w w' := by
  have HP := Lib.hid hP
  have H4 := Lib.hid h4
  have HA := Lib.hid hA
  have HS := Lib.hid hs
  have HK := Lib.hid hk
  clear hP hA hs hk h4
  go_enter Try.func42, Try.ntmps42
  go_wp2_with fail
  go_loopw [5] (fun i wr => ∃ k : Nat, k ≤ A.length ∧ i = .int .i64 k ∧ NoneYet A ks k ∧ But [] w wr) (fun i _ => A.length - (intOf i).toNat)
  case atStart => exact ⟨0, Nat.zero_le _, rfl, fun i x hi => absurd hi (Nat.not_lt_zero _), But.refl _ _⟩
  case round =>
    obtain ⟨k, hkl, rfl, hno, hb⟩ := hrel
    have HB := Lib.hid hb
    have HNO := Lib.hid hno
    have d4 : wr.cell? ⟨R, 4, none⟩ = some (.slice a A.length c) := cell_but hb H4.out (by simp)
    clear hb hno
    by_cases hlt : k < A.length
    · obtain ⟨hk0, hk1, hw1, hw2⟩ := find_nums hlt hn
      obtain ⟨x, hx⟩ : ∃ x, A[k]? = some x := ⟨_, List.getElem?_eq_getElem hlt⟩
      obtain ⟨g, rfl⟩ := HP.out.addr (by omega)
      have d1 := ((HP.out.but HB.out (by simp)).at2 (enc_get hx)).1
      have hcv : ∀ q, (convert 25 9 (.slice ka n kc)).run Try.prog (wr.drewN q) = .ok (.string (strOfNums ks)) (wr.drewN q) := fun q =>
        conv_str Try.underlying25 Try.underlying5 Try.underlying9 (HS.out.but (HB.out.drewN q) (by simp))
      have HX := Lib.hid hx
      have HLT := Lib.hid hlt
      clear hx hlt
      by_cases he : x.1 = ks
      · have hq := str_eqb he
        have HE := Lib.hid he
        clear he
        go_wp2_with fail
        go_quiet (fail)
        go_wp2_with fail
        go_ret
        exact ⟨congrArg (fun i => Ending.returned (.int .i64 i)) (findI_here HNO.out HX.out HE.out).symm, HB.out.drewN _⟩
      · have hq := str_neb (HA.out x (List.mem_of_getElem? HX.out)) HK.out he
        have HE := Lib.hid he
        clear he
        go_wp2_with fail
        go_quiet (fail)
        go_wp2_with fail
        go_roundw
        case rel => exact ⟨k + 1, HLT.out, by go_num, HNO.out.next HX.out HE.out, HB.out.drewN _⟩
        case measure => first | exact find_meas HLT.out | exact (by rw [hw1]; exact find_meas HLT.out)
    · obtain rfl : k = A.length := num_eqR hkl hlt
      clear hlt hkl
      go_wp2_with fail
      go_ret
      exact ⟨congrArg (fun i => Ending.returned (.int .i64 i)) (findI_no HNO.out).symm, HB.out⟩
end Go.Proofs.Ytifgfnifadmoaaa.M
namespace Go.Proofs.Ytifgfnifadmoaaa.M
open Go.RowKit
set_option linter.unusedVariables false
set_option linter.unusedSectionVars false
set_option linter.unusedSimpArgs false
attribute [local go_sem ↓] Go.wp_at_zero Go.wp_at_succ
def freeI (A : LSt) (N : Nat) : Int := match (List.range N).find? (fun p => !usedA A p) with | none => -1 | some p => p
def UsedTo (A : LSt) (p : Nat) : Prop := ∀ j, j < p → usedA A j = true
theorem freeR_here {A : LSt} {N p : Nat} (hp : p < N) (h : UsedTo A p) (hu : usedA A p = false) : freeI A N = p := by
  have : (List.range N).find? (fun p => !usedA A p) = some p := by
    rw [List.find?_range_eq_some]
    exact ⟨by rw [hu]; rfl, List.mem_range.2 hp, fun j hj => by rw [h j hj]; rfl⟩
  unfold freeI
  rw [this]
theorem freeR_no {A : LSt} {N : Nat} (h : UsedTo A N) : freeI A N = -1 := by
  have : (List.range N).find? (fun p => !usedA A p) = none := by
    rw [List.find?_eq_none]
    intro p hp
    rw [h p (List.mem_range.1 hp)]
    simp
  unfold freeI
  rw [this]
theorem used_step {A : LSt} {i p : Nat} {x : List Int × Nat} (hx : A[i]? = some x) : usedA (A.take (i + 1)) p = (usedA (A.take i) p || x.2 == p) := by
  unfold usedA
  rw [List.take_add_one, hx, List.any_append]
  simp
theorem used_all (A : LSt) (p : Nat) : usedA (A.take A.length) p = usedA A p := by rw [List.take_length]
theorem UsedTo.next {A : LSt} {p : Nat} (h : UsedTo A p) (hu : usedA A p = true) : UsedTo A (p + 1) := fun j hj => by
  by_cases e : j = p
  · rw [e]; exact hu
  · exact h j (by omega)
theorem cast_eqb {a b : Nat} (h : a = b) : ((a : Int) == (b : Int)) = true := by rw [h]; exact beq_self_eq_true _
theorem cast_neb {a b : Nat} (h : a ≠ b) : ((a : Int) == (b : Int)) = false := by
  rw [beq_eq_false_iff_ne]; omega
theorem used_or1 {u : Bool} {x p : Nat} (h : u = true) : (u || x == p) = true := by rw [h]; rfl
theorem used_or2 {u : Bool} {x p : Nat} (h : x = p) : (u || x == p) = true := by rw [h]; simp
theorem used_or3 {u : Bool} {x p : Nat} (h : u = false) (h2 : x ≠ p) : (u || x == p) = false := by rw [h]; simpa using h2
set_option maxRecDepth 100000 in
set_option maxHeartbeats 4000000 in
theorem refFree {w : World} {R c N : Nat} {a : Option Addr} {A : LSt} (h3 : w.cell? ⟨R, 3, none⟩ = some (.int .i64 N)) (h4 : w.cell? ⟨R, 4, none⟩ = some (.slice a A.length c)) (hP : OwnP w 80 (.slice a A.length c) (enc A)) (hn : A.length ≤ 1024) (hN : N ≤ 1024) :
    Calls Try.prog 45 #[.pointer (some ⟨R, 0, none⟩)] w fun e w' => e = .returned (.int .i64 (freeI A N)) ∧ w = w' := by
  have HP := Lib.hid hP
  clear hP
  go_enter Try.func45, Try.ntmps45
  go_wp2_with fail
  go_loop [3] (fun p => ∃ k : Nat, k ≤ N ∧ p = .int .i64 k ∧ UsedTo A k) (fun p => N - (intOf p).toNat)
  case atStart => exact ⟨0, Nat.zero_le _, rfl, fun j hj => absurd hj (Nat.not_lt_zero _)⟩
  case round =>
    obtain ⟨p, hpl, rfl, hus⟩ := hrel
    have HUS := Lib.hid hus
    clear hus
    by_cases hlt : p < N
    · obtain ⟨hp0, hp1, hw1, hw2⟩ := find_nums hlt hN
      have HLT := Lib.hid hlt
      clear hlt
      go_wp2_with fail
      go_loop [4, 5] (fun u i => ∃ k : Nat, k ≤ A.length ∧ i = .int .i64 k ∧ ∃ b : Bool, u = .bool b ∧ usedA (A.take k) p = b) (fun _ i => A.length - (intOf i).toNat)
      case atStart => exact ⟨0, Nat.zero_le _, rfl, false, rfl, rfl⟩
      case round =>
        obtain ⟨k, hkl, rfl, b, rfl, hb⟩ := hrel
        have HU := Lib.hid hb
        clear hb
        by_cases hlk : k < A.length
        · obtain ⟨hk0, hk1, hw3, hw4⟩ := find_nums hlk hn
          obtain ⟨x, hx⟩ : ∃ x, A[k]? = some x := ⟨_, List.getElem?_eq_getElem hlk⟩
          obtain ⟨g, rfl⟩ := HP.out.addr (by omega)
          have d1 := (HP.out.at2 (enc_get hx)).2
          have HST := Lib.hid (used_step (p := p) hx)
          have HLK := Lib.hid hlk
          clear hx hlk
          cases b with
          | true =>
            go_wp2_with fail
            go_round
            case rel => exact ⟨k + 1, HLK.out, by go_num, true, rfl, by rw [HST.out]; exact used_or1 HU.out⟩
            case measure => first | exact find_meas HLK.out | exact (by rw [hw3]; exact find_meas HLK.out)
          | false =>
            by_cases he : x.2 = p
            · have hq := cast_eqb he
              have HE := Lib.hid he
              clear he
              go_wp2_with fail
              go_round
              case rel => exact ⟨k + 1, HLK.out, by go_num, true, by first | rfl | (rw [hq]), by rw [HST.out]; exact used_or2 HE.out⟩
              case measure => first | exact find_meas HLK.out | exact (by rw [hw3]; exact find_meas HLK.out)
            · have hq := cast_neb he
              have HE := Lib.hid he
              clear he
              go_wp2_with fail
              go_round
              case rel => exact ⟨k + 1, HLK.out, by go_num, false, by first | rfl | (rw [hq]), by rw [HST.out]; exact used_or3 HU.out HE.out⟩
              case measure => first | exact find_meas HLK.out | exact (by rw [hw3]; exact find_meas HLK.out)
        · obtain rfl : k = A.length := num_eqR hkl hlk
          have HUA : Hid (usedA A p = b) := Lib.hid (by rw [← used_all]; exact HU.out)
          clear hlk hkl
          cases b with
          | true =>
            go_wp2_with fail
            go_round
            case rel => exact ⟨p + 1, HLT.out, by go_num, HUS.out.next HUA.out⟩
            case measure => first | exact find_meas HLT.out | exact (by rw [hw1]; exact find_meas HLT.out)
          | false =>
            go_wp2_with fail
            go_ret
            exact ⟨congrArg (fun i => Ending.returned (.int .i64 i)) (freeR_here HLT.out HUS.out HUA.out).symm, rfl⟩
    · obtain rfl : p = N := num_eqR hpl hlt
      clear hlt hpl
      go_wp2_with fail
      go_ret
      exact ⟨congrArg (fun i => Ending.returned (.int .i64 i)) (freeR_no HUS.out).symm, rfl⟩
/-- A list is stored. -/
theorem RefL.store {w w7 : World} {ok : Nat → Prop} {R K V N : Nat} {A A' : LSt} {rows : List (List Int)} (h : RefL w ok R K V N A rows) {L : List Nat} (hb : But L w w7) (hL : ∀ x ∈ L, ∃ cur, w.heap[x]? = some (.cells cur 80)) (hLok : ∀ x ∈ L, ok x) {a3 : Option Addr} {c3 : Nat} (hq : OwnP w7 80 (.slice a3 A'.length c3) (enc A')) (hlow : ∀ b, (Value.slice a3 A'.length c3).ownBlock = some b → ok b) (hA' : ∀ x ∈ A', ByteL x.1 ∧ x.2 < N) (hlen : A'.length ≤ N) :
    w7.frozen? ⟨R, 4, none⟩ = false ∧ (∃ u, w7.cell? ⟨R, 4, none⟩ = some u) ∧ RefL (w7.setCell ⟨R, 4, none⟩ (.slice a3 A'.length c3)) ok R K V N A' rows ∧ Turns ok w (w7.setCell ⟨R, 4, none⟩ (.slice a3 A'.length c3)) := by
  obtain ⟨h0, ⟨a, c, b, d, vals, h1, h2, h3, h4⟩, h5, h6, h7⟩ := h
  have off : ∀ {e : TypeId} {C : Array Value} {k : Nat}, w.heap[k]? = some (.cells C e) → e ≠ 80 → k ∉ L := fun hk he hm => by
    obtain ⟨cur, hc⟩ := hL _ hm
    rw [hk] at hc
    simp only [Option.some.injEq, Obj.cells.injEq] at hc
    exact he hc.2.1
  have hR7 := hb.heap h1 (off h1 (by decide))
  have hs : But [R] w7 (w7.setCell ⟨R, 4, none⟩ (.slice a3 A'.length c3)) := (But.refl _ _).setCell (.inl (by simp)) _
  have noR : ∀ {e : TypeId} {v : Value} {xs : List Value}, OwnQ w7 e v xs → e ≠ 76 → ∀ b, v.ownBlock = some b → b ∉ [R] := fun hq he b hb hm => by
    simp only [List.mem_singleton] at hm
    subst hm
    obtain ⟨cur, hg⟩ := hq.tag _ hb
    rw [hR7] at hg
    simp only [Option.some.injEq, Obj.cells.injEq] at hg
    exact he hg.2.1.symm
  have keepQ : ∀ {e : TypeId} {v : Value} {xs : List Value}, OwnQ w e v xs → e ≠ 76 → e ≠ 80 → OwnQ (w7.setCell ⟨R, 4, none⟩ (.slice a3 A'.length c3)) e v xs := fun hv he he2 => by
    have h8 := hv.but hb (fun k hk => by
      obtain ⟨cur, hg⟩ := hv.tag k hk
      exact off hg he2)
    exact h8.but hs (noR h8 he)
  refine ⟨by unfold World.frozen?; rw [hR7]; simp, ⟨_, cl_of hR7 4⟩, ⟨h0, ⟨a3, c3, b, d, vals, ?_, hq.but hs (fun x hx hm => ?_), hlow, ?_⟩, hA', hlen, h7⟩, R :: L, fun x hx => ?_, (hb.mono (fun x hx => List.mem_cons_of_mem _ hx)).trans hs (fun x hx => .inl (by simp only [List.mem_singleton] at hx; subst hx; simp))⟩
  · simp [World.setCell, Array.getElem?_modify, hR7]
  · simp only [List.mem_singleton] at hm
    subst hm
    obtain ⟨cur, hg⟩ := hq.tag hx
    rw [hR7] at hg
    simp only [Option.some.injEq, Obj.cells.injEq] at hg
    exact absurd hg.2.1 (by decide)
  · exact ⟨keepQ h4.own (by decide) (by decide), h4.okb, h4.len, fun i v r hv hr => ⟨keepQ (h4.each i v r hv hr).1 (by decide) (by decide), (h4.each i v r hv hr).2⟩, h4.apart⟩
  · rcases List.mem_cons.1 hx with rfl | hx
    · exact h0
    · exact hLok x hx
end Go.Proofs.Ytifgfnifadmoaaa.M
namespace Go.Proofs.Ytifgfnifadmoaaa.M
open Go.RowKit
set_option linter.unusedVariables false
set_option linter.unusedSectionVars false
set_option linter.unusedSimpArgs false
attribute [local go_sem ↓] Go.wp_at_zero Go.wp_at_succ
theorem enc_cut {A : LSt} {i : Nat} : (enc A).take i ++ (enc A).drop (i + 1) = enc (A.eraseIdx i) := by
  rw [← List.eraseIdx_eq_take_drop_succ]
  unfold enc
  rw [ChangeMaps.map_eraseIdx]
theorem RefL.shrunk {w w5 w7 : World} {ok : Nat → Prop} {R K V N : Nat} {A : LSt} {rows : List (List Int)} (h : RefL w ok R K V N A rows) (hok : ∀ b, w.heap.size ≤ b → ok b) {i : Nat} (hi : i < A.length) {L1 L2 : List Rec} (e1 : L1 = (enc A).take i) (e2 : L2 = (enc A).drop (i + 1)) {a1 : Option Addr} {c1 : Nat} {v' : Value}
    (q5 : OwnP w5 80 (.slice a1 L1.length c1) L1) (n5 : ∀ b, (Value.slice a1 L1.length c1).ownBlock = some b → w.heap.size ≤ b) (b5 : But [] w w5) (hap : AppP w5 w7 80 (.slice a1 L1.length c1) v' L1 L2) :
    ∃ a3 c3, v' = .slice a3 (L1.length + L2.length) c3 ∧ w7.frozen? ⟨R, 4, none⟩ = false ∧ (∃ u, w7.cell? ⟨R, 4, none⟩ = some u) ∧ RefL (w7.setCell ⟨R, 4, none⟩ (.slice a3 (L1.length + L2.length) c3)) ok R K V N (A.eraseIdx i) rows ∧ But [R] w (w7.setCell ⟨R, 4, none⟩ (.slice a3 (L1.length + L2.length) c3)) := by
  obtain ⟨hq, hc⟩ := hap
  obtain ⟨a3, c3, e⟩ := hq.form
  have hl : (L1 ++ L2).length = L1.length + L2.length := List.length_append
  have he : L1 ++ L2 = enc (A.eraseIdx i) := by rw [e1, e2]; exact enc_cut
  have hl2 : (A.eraseIdx i).length = L1.length + L2.length := by rw [← hl, he, enc_len]
  rw [hl] at e
  subst e
  have bW7 : But [] w w7 := by
    rcases hc with ⟨_, _, _, _, hb⟩ | ⟨_, hb⟩
    · exact b5.trans hb (fun x hx => .inr (n5 x (by simpa using hx)))
    · exact b5.trans hb (by simp)
  have hlow : ∀ b, (Value.slice a3 (L1.length + L2.length) c3).ownBlock = some b → ok b := fun b hb => by
    rcases hc with ⟨a0, cap, e1, e2, _⟩ | ⟨hn, _⟩
    · refine hok b (n5 b ?_)
      rw [e1]
      rw [e2] at hb
      exact (own_addr _ _ _ _ _).trans hb
    · rw [hn] at hb
      cases hb
      exact hok _ b5.size
  rw [he] at hq
  have h9 := h.store (A' := A.eraseIdx i) bW7 (by simp) (by simp) (a3 := a3) (c3 := c3) (by rw [hl2]; exact hq) (by rw [hl2]; exact hlow) (fun x hx => h.keys x (List.mem_of_mem_eraseIdx hx)) (by have := List.length_eraseIdx_le A i; have := h.len; omega)
  rw [hl2] at h9
  exact ⟨a3, c3, rfl, h9.1, h9.2.1, h9.2.2.1, (bW7.mono (by simp)).trans ((But.refl _ _).setCell (.inl (by simp)) _) (fun x hx => .inl hx)⟩
set_option maxRecDepth 100000 in
set_option maxHeartbeats 4000000 in
theorem RefL.out {w : World} {ok : Nat → Prop} {R K V N : Nat} {A : LSt} {rows : List (List Int)} (h : RefL w ok R K V N A rows) (hok : ∀ b, w.heap.size ≤ b → ok b) {i : Nat} (hi : i < A.length) :
    Calls Try.prog 44 #[.pointer (some ⟨R, 0, none⟩), .int .i64 i] w fun e w' => e = .returned (.tuple #[]) ∧ RefL w' ok R K V N (A.eraseIdx i) rows ∧ But [R] w w' := by
  obtain ⟨i0, hin, hz0, hz1, hz2⟩ := info_parts (show (Try.prog.info? 80).map (fun i => (i.zero, i.size, i.bytes)) = some (some (.agg #[.string .empty, .int .i64 0]), 2, 24) by kernel_rfl)
  have HH := Lib.hid h
  obtain ⟨h0, ⟨a, c, b, d, vals, h1, h2, h3, h4⟩, h5, h6, h7⟩ := h
  obtain ⟨g, rfl⟩ := h2.addr (by omega)
  have hcap := h2.cap
  obtain ⟨L1, e1⟩ : ∃ L1, L1 = (enc A).take i := ⟨_, rfl⟩
  obtain ⟨L2, e2⟩ : ∃ L2, L2 = (enc A).drop (i + 1) := ⟨_, rfl⟩
  have l1 : L1.length = i := by rw [e1, List.length_take, enc_len]; omega
  have l2 : L2.length = A.length - (i + 1) := by rw [e2, List.length_drop, enc_len]
  have HL1 := Lib.hid l1
  have S1 : Hid (∀ w' : World, But [] w w' → Src Try.prog i0.size 74 (.slice (some ⟨g, 0, none⟩) i c) L1.length (flatP L1) w') := Lib.hid fun w' hb => by
    have hp := (h2.but hb (by simp)).part (P := Try.prog) Try.underlying74 0 i c (by rw [enc_len]; omega)
    rw [Nat.zero_mul, List.drop_zero, ← e1] at hp
    rw [hz1]
    exact hp
  obtain ⟨q, hq⟩ : ∃ q, q = i + 1 := ⟨_, rfl⟩
  obtain ⟨m, hm⟩ : ∃ m, m = L2.length := ⟨_, rfl⟩
  have hvl : A.length = q + m := by omega
  have S2 : Hid (∀ w' : World, But [] w w' → Src Try.prog i0.size 74 (.slice (some ⟨g, q * 2, none⟩) m (c - q)) L2.length (flatP L2) w') := Lib.hid fun w' hb => by
    have hp := (h2.but hb (by simp)).part (P := Try.prog) Try.underlying74 q m (c - q) (by rw [enc_len]; omega)
    have e3 : ((enc A).drop q).take m = L2 := by rw [hq, ← e2, hm]; exact List.take_length
    rw [e3] at hp
    rw [hz1]
    exact hp
  have hltw := lt_of h1
  have hw : IntKind.i64.wrap ((i : Int) + 1) = (q : Int) := by rw [hq]; exact IntWalk.i64_in _ (by omega)
  have KEY1 := Lib.hid (fun (v' : Value) (w5 : World) (hap : AppP (w.alloc (.cells #[] 80)).drew w5 80 (.slice (some ⟨w.heap.size, 0, none⟩) 0 0) v' [] L1) => freshP (w0 := w) (((But.refl [] w).alloc _).drew) (by show w.heap.size < (w.alloc _).heap.size; rw [size_alloc]; omega) hap)
  have KEY2 := Lib.hid (fun (w5 w7 : World) (v' : Value) (a5 : Option Addr) (c5 : Nat) (q5 : OwnP w5 80 (.slice a5 L1.length c5) L1) (n5 : ∀ b, (Value.slice a5 L1.length c5).ownBlock = some b → w.heap.size ≤ b) (b5 : But [] w w5) (hap : AppP w5 w7 80 (.slice a5 L1.length c5) v' L1 L2) => HH.out.shrunk hok hi e1 e2 q5 n5 b5 hap)
  have HQ0 : Hid (OwnP (w.alloc (.cells #[] 80)).drew 80 (.slice (some ⟨w.heap.size, 0, none⟩) 0 0) []) := Lib.hid ((fresh_atP w 80).but ((But.refl [] _).drew) (by simp))
  have HS1 := Lib.hid (S1.out _ (((But.refl [] w).alloc (.cells #[] 80)).drew))
  have HM := Lib.hid hm
  have hi0 : (0 : Int) ≤ i := by omega
  have hm1 : m ≤ 1024 := by omega
  have hj1 : i ≤ 1024 := by omega
  by_cases hc1 : q < c
  · have c4 : w.cell? ⟨R, 4, none⟩ = some (.slice (some ⟨g, 0, none⟩) (q + m) c) := by rw [← hvl]; exact cl_of h1 4
    have hqm : q + m ≤ c := by omega
    have hic : i ≤ c := by omega
    have hqc : q ≤ c := by omega
    have hqc3 : ¬ c = q := by omega
    have hic2 : (i : Int) ≤ c := by omega
    have hq0 : (0 : Int) ≤ q := by omega
    have hq1 : (q : Int) ≤ (q : Int) + (m : Int) := by omega
    clear h0 h1 h2 h3 h4 h5 h6 h7 hok hi e1 e2 l1 l2 hm hvl hq hcap
    go_enter Try.func44, Try.ntmps44
    go_wp2_with fail
    go_region_law (first
      | (refine step_append_p (by rfl) _ _ 74 (by rfl) 80 i0 (.agg #[.string .empty, .int .i64 0]) 24 Try.underlying74 hin hz0 hz1 hz2 rfl _ [] (by rfl) HQ0.out L1 _ (by rfl) HS1.out (by rw [HL1.out]; unfold maxLen; have h0 : ([] : List Rec).length = 0 := rfl; omega) (by rw [HL1.out]; have h0 : ([] : List Rec).length = 0 := rfl; omega) ?_; intro v' w5 hap; obtain ⟨a5, c5, rfl, q5, n5, b5⟩ := KEY1.out _ _ hap; have k45 := cell_but b5 c4 (by simp); have Q5 := Lib.hid q5; have N5 := Lib.hid n5; have B5 := Lib.hid b5; clear hap q5 n5 b5)
      | (refine step_append_p (by rfl) _ _ 74 (by rfl) 80 i0 (.agg #[.string .empty, .int .i64 0]) 24 Try.underlying74 hin hz0 hz1 hz2 rfl _ L1 (by rfl) Q5.out L2 _ (by rfl) (S2.out _ B5.out) (by rw [HL1.out, ← HM.out]; unfold maxLen; omega) (by rw [HL1.out, ← HM.out]; omega) ?_; intro v' w7 hap; obtain ⟨a7, c7, rfl, gf7, ⟨u7, gc7⟩, h7, b7⟩ := KEY2.out _ _ _ _ _ Q5.out N5.out B5.out hap; have H7 := Lib.hid h7; have B7 := Lib.hid b7; clear hap h7 b7))
    all_goals
      go_wp2_with fail
      go_end0
      exact ⟨rfl, H7.out, B7.out⟩
  · obtain rfl : c = q := by omega
    have hm0 : m = 0 := by omega
    obtain rfl : L2 = [] := List.eq_nil_of_length_eq_zero (by omega)
    have S3 : Hid (∀ w' : World, Src Try.prog i0.size 74 (.slice (some ⟨g, 0, none⟩) 0 0) ([] : List Rec).length (flatP []) w') := Lib.hid fun w' => by rw [hz1]; exact src_none (P := Try.prog) (w := w') Try.underlying74 ⟨g, 0, none⟩ 0
    have c4 : w.cell? ⟨R, 4, none⟩ = some (.slice (some ⟨g, 0, none⟩) c c) := by have := cl_of h1 4; rw [show A.length = c by omega] at this; exact this
    have hic : i ≤ c := by omega
    have hic2 : (i : Int) ≤ c := by omega
    have hq0 : (0 : Int) ≤ c := by omega
    clear h0 h1 h2 h3 h4 h5 h6 h7 hok hi e1 e2 l1 l2 hm hvl hq hcap hm0 S2 hc1
    go_enter Try.func44, Try.ntmps44
    go_wp2_with fail
    go_region_law (first
      | (refine step_append_p (by rfl) _ _ 74 (by rfl) 80 i0 (.agg #[.string .empty, .int .i64 0]) 24 Try.underlying74 hin hz0 hz1 hz2 rfl _ [] (by rfl) HQ0.out L1 _ (by rfl) HS1.out (by rw [HL1.out]; unfold maxLen; have h0 : ([] : List Rec).length = 0 := rfl; omega) (by rw [HL1.out]; have h0 : ([] : List Rec).length = 0 := rfl; omega) ?_; intro v' w5 hap; obtain ⟨a5, c5, rfl, q5, n5, b5⟩ := KEY1.out _ _ hap; have k45 := cell_but b5 c4 (by simp); have Q5 := Lib.hid q5; have N5 := Lib.hid n5; have B5 := Lib.hid b5; clear hap q5 n5 b5)
      | (refine step_append_p (by rfl) _ _ 74 (by rfl) 80 i0 (.agg #[.string .empty, .int .i64 0]) 24 Try.underlying74 hin hz0 hz1 hz2 rfl _ L1 (by rfl) Q5.out [] _ (by rfl) (S3.out _) (by rw [HL1.out]; unfold maxLen; have h0 : ([] : List Rec).length = 0 := rfl; omega) (by rw [HL1.out]; have h0 : ([] : List Rec).length = 0 := rfl; omega) ?_; intro v' w7 hap; obtain ⟨a7, c7, rfl, gf7, ⟨u7, gc7⟩, h7, b7⟩ := KEY2.out _ _ _ _ _ Q5.out N5.out B5.out hap; have H7 := Lib.hid h7; have B7 := Lib.hid b7; clear hap h7 b7))
    all_goals
      go_wp2_with fail
      go_end0
      exact ⟨rfl, H7.out, B7.out⟩
end Go.Proofs.Ytifgfnifadmoaaa.M
namespace Go.Proofs.Ytifgfnifadmoaaa.M
open Go.RowKit
set_option linter.unusedVariables false
set_option linter.unusedSectionVars false
set_option linter.unusedSimpArgs false
attribute [local go_sem ↓] Go.wp_at_zero Go.wp_at_succ
theorem turns_trans {ok : Nat → Prop} {a b c : World} (h : Turns ok a b) (k : Turns ok b c) : Turns ok a c := by
  obtain ⟨L, hL, hb⟩ := h
  obtain ⟨M, hM, hc⟩ := k
  exact ⟨L ++ M, fun x hx => by rcases List.mem_append.1 hx with h | h; exact hL x h; exact hM x h, (hb.mono (fun x hx => List.mem_append_left _ hx)).trans (hc.mono (fun x hx => List.mem_append_right _ hx)) (fun x hx => .inl hx)⟩
theorem RefL.slot {w : World} {ok : Nat → Prop} {R K V N : Nat} {A : LSt} {rows : List (List Int)} (h : RefL w ok R K V N A rows) : ∃ a c, w.cell? ⟨R, 4, none⟩ = some (.slice a A.length c) ∧ OwnP w 80 (.slice a A.length c) (enc A) ∧ w.cell? ⟨R, 1, none⟩ = some (.int .i64 K) ∧ w.cell? ⟨R, 2, none⟩ = some (.int .i64 V) ∧ w.cell? ⟨R, 3, none⟩ = some (.int .i64 N) ∧ R < w.heap.size := by
  obtain ⟨h0, ⟨a, c, b, d, vals, h1, h2, h3, h4⟩, h5, h6, h7⟩ := h
  exact ⟨a, c, cl_of h1 4, h2, cl_of h1 1, cl_of h1 2, cl_of h1 3, lt_of h1⟩
theorem RefL.grown {w wz w7 : World} {ok : Nat → Prop} {R K V N : Nat} {A : LSt} {rows : List (List Int)} (h : RefL w ok R K V N A rows) (hok : ∀ b, w.heap.size ≤ b → ok b) (hz : But [] w wz) {a : Option Addr} {c : Nat} (hl : w.cell? ⟨R, 4, none⟩ = some (.slice a A.length c)) {x : List Int × Nat} (hx : ByteL x.1 ∧ x.2 < N) (hlen : A.length < N) {v' : Value} (hap : AppP wz w7 80 (.slice a A.length c) v' (enc A) [(strOfNums x.1, x.2)]) :
    ∃ a3 c3, v' = .slice a3 (A.length + 1) c3 ∧ w7.frozen? ⟨R, 4, none⟩ = false ∧ (∃ u, w7.cell? ⟨R, 4, none⟩ = some u) ∧ RefL (w7.setCell ⟨R, 4, none⟩ (.slice a3 (A.length + 1) c3)) ok R K V N (A ++ [x]) rows ∧ Turns ok w (w7.setCell ⟨R, 4, none⟩ (.slice a3 (A.length + 1) c3)) := by
  have h' := h
  obtain ⟨h0, ⟨a', c', b, d, vals, h1, h2, h3, h4⟩, h5, h6, h7⟩ := h'
  have e0 : (Value.slice a' A.length c') = .slice a A.length c := Option.some.inj ((cl_of h1 4).symm.trans hl)
  rw [e0] at h2 h3
  obtain ⟨hq, hc⟩ := hap
  obtain ⟨a3, c3, e⟩ := hq.form
  have he : enc A ++ [(strOfNums x.1, x.2)] = enc (A ++ [x]) := by unfold enc; rw [List.map_append]; rfl
  have hl2 : (A ++ [x]).length = A.length + 1 := by rw [List.length_append]; rfl
  rw [he, enc_len, hl2] at e
  subst e
  rw [he] at hq
  have hk : ∃ L, But L w w7 ∧ (∀ y ∈ L, (Value.slice a A.length c).ownBlock = some y) ∧ ∀ b, (Value.slice a3 (A.length + 1) c3).ownBlock = some b → ok b := by
    rcases hc with ⟨a0, cap, q1, q2, hb⟩ | ⟨hn, hb⟩
    · refine ⟨_, (hz.mono (by simp)).trans hb (fun y hy => .inl hy), fun y hy => by simpa using hy, fun b hb' => h3 b ?_⟩
      rw [q1]
      rw [q2] at hb'
      exact (own_addr _ _ _ _ _).trans hb'
    · refine ⟨[], hz.trans hb (by simp), (by simp), fun b hb' => ?_⟩
      rw [hn] at hb'
      cases hb'
      exact hok _ hz.size
  obtain ⟨L, hb, hL, hlow⟩ := hk
  have h9 := h.store (A' := A ++ [x]) hb (fun y hy => h2.tag (hL y hy)) (fun y hy => h3 y (hL y hy)) (a3 := a3) (c3 := c3) (by rw [hl2]; exact hq) (by rw [hl2]; exact hlow) (fun y hy => by
    rcases List.mem_append.1 hy with hy | hy
    · exact h5 y hy
    · have e : y = x := (by simpa using hy)
      rw [e]; exact hx) (by rw [hl2]; omega)
  rw [hl2] at h9
  exact ⟨a3, c3, rfl, h9⟩
theorem src_oneP {i0 : TypeInfo} (hz1 : i0.size = 2) (w5 : World) (s : ByteArray) (p : Nat) : Src Try.prog i0.size 74 (.slice (some ⟨w5.heap.size, 0, none⟩) 1 1) [((s, p) : Rec)].length (flatP [(s, p)]) (w5.alloc (.cells #[.string s, .int .i64 p] 80)).drew := by
  rw [hz1]
  refine Src.ofSlice _ Try.underlying74 ⟨w5.heap.size, 0, none⟩ 1 1 _ (by rfl) (fun j u hj => ?_) (flatP_one _)
  rw [add_at, Nat.zero_add]
  show (w5.alloc (.cells #[.string s, .int .i64 p] 80)).cell? _ = _
  rw [cl_of (al_at _ _)]
  match j, hj with
  | 0, hj => exact hj
  | 1, hj => exact hj
  | j + 2, hj => simp [flatP, rcells] at hj
theorem app_fitsP {n : Nat} (h : n ≤ 1024) : n + 1 ≤ maxLen ∧ (n + 1) * 24 ≤ 140737488355328 := by
  unfold maxLen
  omega
set_option maxRecDepth 100000 in
set_option maxHeartbeats 4000000 in
theorem RefL.younger {w : World} {ok : Nat → Prop} {R K V N : Nat} {A : LSt} {rows : List (List Int)} (h : RefL w ok R K V N A rows) (hok : ∀ b, w.heap.size ≤ b → ok b) {i : Nat} {x : List Int × Nat} (hx : A[i]? = some x) :
    Calls Try.prog 43 #[.pointer (some ⟨R, 0, none⟩), .int .i64 i] w fun e w' => e = .returned (.tuple #[]) ∧ RefL w' ok R K V N (youngA A i) rows ∧ Turns ok w w' := by
  obtain ⟨i0, hin, hz0, hz1, hz2⟩ := info_parts (show (Try.prog.info? 80).map (fun i => (i.zero, i.size, i.bytes)) = some (some (.agg #[.string .empty, .int .i64 0]), 2, 24) by kernel_rfl)
  have hi : i < A.length := (List.getElem?_eq_some_iff.1 hx).1
  obtain ⟨a, c, c4, hP, _, _, _, hlt⟩ := h.slot
  obtain ⟨g, rfl⟩ := hP.addr (by omega)
  obtain ⟨d1, d2⟩ := hP.at2 (enc_get hx)
  have hk := h.keys x (List.mem_of_getElem? hx)
  have hlen := h.len
  have hN := h.bounds.2.2.2
  obtain ⟨hi0, hi1, _, _⟩ := find_nums hi (Nat.le_trans hlen hN)
  obtain ⟨s, hs⟩ : ∃ s, s = strOfNums x.1 := ⟨_, rfl⟩
  obtain ⟨p, hp⟩ : ∃ p, p = x.2 := ⟨_, rfl⟩
  obtain ⟨W1, hW1⟩ : ∃ W1, W1 = w.alloc (.cells #[.string s, .int .i64 p] 80) := ⟨_, rfl⟩
  have hb1 : But [] w W1 := by rw [hW1]; exact (But.refl [] w).alloc _
  have hbx : W1.heap[w.heap.size]? = some (.cells #[.string s, .int .i64 p] 80) := by rw [hW1]; exact al_at _ _
  have HO := Lib.hid ((h.keep hb1 (by simp)).out (fun b hb => hok b (Nat.le_trans hb1.size hb)) hi)
  rw [← hs, ← hp] at d1 d2
  have HS := Lib.hid hs
  have HPp := Lib.hid hp
  have HW1 := Lib.hid hW1
  have HB1 := Lib.hid hb1
  have HBX := Lib.hid hbx
  have HOK := Lib.hid hok
  have HX := Lib.hid hx
  have HKB := Lib.hid hk
  have HLE : Hid ((A.eraseIdx i).length < N ∧ (A.eraseIdx i).length ≤ 1024) := Lib.hid (by rw [List.length_eraseIdx_of_lt hi]; omega)
  have HOR := Lib.hid h.okR
  clear h hP hx hs hp hW1 hb1 hbx hok hk hlen hN hi
  go_enter Try.func43, Try.ntmps43
  go_wp2_with fail
  rw [← HW1.out]
  refine HO.out.mono ?_
  rintro e w2 ⟨rfl, hR2, hb2⟩
  obtain ⟨a2, c2, k4, hP2, -, -, -, hlt2⟩ := hR2.slot
  have hbx2 := hb2.heap HBX.out (by simp only [List.mem_singleton]; omega)
  have b0 : w2.cell? ⟨w.heap.size, 0, none⟩ = some (.string s) := cl_of hbx2 0
  have b1 : w2.cell? ⟨w.heap.size, 1, none⟩ = some (.int .i64 p) := cl_of hbx2 1
  have hltb := lt_of hbx2
  have HR2 := Lib.hid hR2
  have HT2 : Hid (Turns ok w w2) := Lib.hid ⟨[R], fun y hy => by have e : y = R := (by simpa using hy); rw [e]; exact HOR.out, (HB1.out.mono (by simp)).trans hb2 (fun y hy => .inl hy)⟩
  have hsz : w.heap.size ≤ w2.heap.size := Nat.le_trans HB1.out.size hb2.size
  have HOK2 : Hid (∀ b, w2.heap.size ≤ b → ok b) := Lib.hid fun b hb => HOK.out b (Nat.le_trans hsz hb)
  have HZ : Hid (But [] w2 (w2.alloc (.cells #[.string s, .int .i64 p] 80)).drew) := Lib.hid (((But.refl [] w2).alloc _).drew)
  have HQ : Hid (OwnP (w2.alloc (.cells #[.string s, .int .i64 p] 80)).drew 80 (.slice a2 (A.eraseIdx i).length c2) (enc (A.eraseIdx i))) := Lib.hid (hP2.but HZ.out (by simp))
  have HFIT : Hid ((enc (A.eraseIdx i)).length ≤ 1024) := Lib.hid (by rw [enc_len]; exact HLE.out.2)
  have HSRC := Lib.hid (src_oneP (i0 := i0) hz1 w2 s p)
  have KEY : Hid (∀ (v' : Value) (w7 : World), AppP (w2.alloc (.cells #[.string s, .int .i64 p] 80)).drew w7 80 (.slice a2 (A.eraseIdx i).length c2) v' (enc (A.eraseIdx i)) [(s, p)] → ∃ a3 c3, v' = .slice a3 ((A.eraseIdx i).length + 1) c3 ∧ w7.frozen? ⟨R, 4, none⟩ = false ∧ (∃ u, w7.cell? ⟨R, 4, none⟩ = some u) ∧ RefL (w7.setCell ⟨R, 4, none⟩ (.slice a3 ((A.eraseIdx i).length + 1) c3)) ok R K V N (A.eraseIdx i ++ [x]) rows ∧ Turns ok w2 (w7.setCell ⟨R, 4, none⟩ (.slice a3 ((A.eraseIdx i).length + 1) c3))) := Lib.hid fun v' w7 hap => HR2.out.grown HOK2.out HZ.out k4 HKB.out HLE.out.1 (by rw [← HS.out, ← HPp.out]; exact hap)
  clear hR2 hb2 hbx2 hP2 hsz c4 d1 d2 hi0 hi1
  go_wp2_with fail
  go_region_law (refine step_append_p (by rfl) _ _ 74 (by rfl) 80 i0 (.agg #[.string .empty, .int .i64 0]) 24 Try.underlying74 hin hz0 hz1 hz2 rfl _ (enc (A.eraseIdx i)) (by rfl) HQ.out [(s, p)] _ (by rfl) HSRC.out (app_fitsP HFIT.out).1 (app_fitsP HFIT.out).2 ?_; intro v' w7 hap; obtain ⟨a7, c7, rfl, gf7, ⟨u7, gc7⟩, h7, t7⟩ := KEY.out _ _ hap; have H7 := Lib.hid h7; have T7 := Lib.hid t7; clear hap h7 t7)
  all_goals
    go_wp2_with fail
    go_end0
    exact ⟨rfl, by unfold youngA; rw [HX.out]; exact H7.out, turns_trans HT2.out T7.out⟩
end Go.Proofs.Ytifgfnifadmoaaa.M
namespace Go.Proofs.Ytifgfnifadmoaaa.M
open Go.RowKit
set_option linter.unusedVariables false
set_option linter.unusedSectionVars false
set_option linter.unusedSimpArgs false
theorem step_copy {P : Program} {ops : Array Oper} {o : Oper} {a : Act} {w : World} {K : Act → World → Prop} {Q : Exit → Act → World → Prop} {E : Prop} (hgd : o.guard = none) (d s : Operand) (dT sT : TypeId)
    (ho : o.op = .call { callee := .builtin .copy, args := #[d, s], argTypes := #[dT, sT] }) (elem : TypeId) (hu : P.underlying dT = some (.slice elem)) (hsz : (P.info? elem).map (·.size) = some 1)
    (dp sp : Option Addr) (dLen dCap sLen sCap : Nat) (hd : a.eval d = .slice dp dLen dCap) (hs : a.eval s = .slice sp sLen sCap)
    (g off : Nat) (cur : List Value) (t : TypeId) (hg : w.heap[g]? = some (.cells cur.toArray t (0, 0))) (cs : List Value) (hn : cs.length = Nat.min sLen dLen)
    (hpos : 0 < cs.length → dp = some ⟨g, off, none⟩ ∧ ∃ ad, sp = some ad ∧ ∀ j v, cs[j]? = some v → w.cell? (ad.add j) = some v)
    (hfit : off + cs.length ≤ cur.length) (h1 : ∀ v ∈ cs, v.oneCell' = true)
    (h : ∀ w', Hid (w'.heap[g]? = some (.cells (splice cur off cs).toArray t (0, 0))) → But [g] w w' → K (a.put o.dst (goInt cs.length)) w') :
    if Region.wanted o (yielded ops a.tmps) = true then Oper.wp P o a w K Q else E := by
  have hw : Region.wanted o (yielded ops a.tmps) = true := by simp [Region.wanted, hgd]
  rw [if_pos hw]
  by_cases h0 : cs.length = 0
  · obtain rfl : cs = [] := List.eq_nil_of_length_eq_zero h0
    have hrun := run_copy_none (P := P) w dT sT o.type elem dp sp dLen dCap sLen sCap hu hsz (by simpa using hn.symm)
    unfold Oper.wp
    simp [execOp, ho, resolve, invoke, builtin, hd, hs, hrun, Result.andThen]
    exact h w (show _ = _ by simpa [splice] using hg) (But.refl _ _)
  · obtain ⟨rfl, ad, rfl, hsrc⟩ := hpos (by omega)
    have hrun := run_copy_row (P := P) w dT sT o.type elem g off dLen dCap ad sLen sCap cur.toArray t cs hu hsz hg hn hsrc (by simpa using hfit) h1
    unfold Oper.wp
    simp [execOp, ho, resolve, invoke, builtin, hd, hs, hrun, Result.andThen]
    exact h _ (show _ = _ by simpa [splice] using setRow_heap w g _ _ t _ hg) ((But.refl _ _).setRow (.inl (by simp)) _)
theorem step_copy_nil {P : Program} {ops : Array Oper} {o : Oper} {a : Act} {w : World} {K : Act → World → Prop} {Q : Exit → Act → World → Prop} {E : Prop} (hgd : o.guard = none) (d s : Operand) (dT sT : TypeId)
    (ho : o.op = .call { callee := .builtin .copy, args := #[d, s], argTypes := #[dT, sT] }) (elem : TypeId) (hu : P.underlying dT = some (.slice elem)) (hsz : (P.info? elem).map (·.size) = some 1)
    (dp sp : Option Addr) (dLen dCap sLen sCap : Nat) (hd : a.eval d = .slice dp dLen dCap) (hs : a.eval s = .slice sp sLen sCap) (hn : Nat.min sLen dLen = 0)
    (h : K (a.put o.dst (goInt 0)) w) :
    if Region.wanted o (yielded ops a.tmps) = true then Oper.wp P o a w K Q else E := by
  have hw : Region.wanted o (yielded ops a.tmps) = true := by simp [Region.wanted, hgd]
  rw [if_pos hw]
  have hrun := run_copy_none (P := P) w dT sT o.type elem dp sp dLen dCap sLen sCap hu hsz hn
  unfold Oper.wp
  simp [execOp, ho, resolve, invoke, builtin, hd, hs, hrun, Result.andThen]
  exact h
end Go.Proofs.Ytifgfnifadmoaaa.M
namespace Go.Proofs.Ytifgfnifadmoaaa.M
open Go.RowKit
set_option linter.unusedVariables false
set_option linter.unusedSectionVars false
set_option linter.unusedSimpArgs false
attribute [local go_sem ↓] Go.wp_at_zero Go.wp_at_succ
/-- A place's row, and what becomes of all rows where bytes are laid over it. -/
structure RowAt (w : World) (ok : Nat → Prop) (V N : Nat) (b : Option Addr) (d : Nat) (vals : List Value) (rows : List (List Int)) (p : Nat) (r : List Int) (g o c : Nat) (cur : List Value) : Prop where
  at' : vals[p]? = some (.slice (some ⟨g, o, none⟩) V c)
  cells : w.heap[g]? = some (.cells cur.toArray 5 (0, 0))
  fit : o + c ≤ cur.length ∧ V ≤ c ∧ c ≤ maxLen
  okg : ok g
  sees : Sees w (.slice (some ⟨g, o, none⟩) V c) (u8s r)
  turn : ∀ (w' : World) (off : Nat) (bs : List Int), off + bs.length ≤ V → ByteL bs → w'.heap[g]? = some (.cells (splice cur (o + off) (u8s bs)).toArray 5 (0, 0)) → But [g] w w' → RoomR w' ok V N b d vals (rows.set p (setAt r off bs))
theorem splice_own {w' : World} {g o c : Nat} {cur : List Value} {r bs : List Int} {off : Nat} (hg : w'.heap[g]? = some (.cells (splice cur (o + off) (u8s bs)).toArray 5 (0, 0))) (hfit : o + c ≤ cur.length) (hrc : r.length ≤ c) (hm : c ≤ maxLen) (ho : off + bs.length ≤ r.length) (hx : ∀ j u, (u8s r)[j]? = some u → cur[o + j]? = some u) : OwnQ w' 5 (.slice (some ⟨g, o, none⟩) r.length c) (u8s (setAt r off bs)) := by
  have hl : (splice cur (o + off) (u8s bs)).length = cur.length := length_splice cur (o + off) (u8s bs) (by rw [u8s_len]; omega)
  refine .inr ⟨g, o, c, (splice cur (o + off) (u8s bs)).toArray, by rw [u8s_len, setAt_len ho], hg, by rw [u8s_len, setAt_len ho]; exact hrc, hm, by rw [List.size_toArray, hl]; exact hfit, fun j u hj => ?_⟩
  rw [← setAt_u8s] at hj
  rw [List.getElem?_toArray]
  have hjl : j < r.length := by
    have := (List.getElem?_eq_some_iff.1 hj).1
    rw [length_splice (u8s r) off (u8s bs) (by rw [u8s_len, u8s_len]; exact ho), u8s_len] at this
    exact this
  have hr : ∃ z, (u8s r)[j]? = some z := ⟨_, List.getElem?_eq_getElem (by rw [u8s_len]; exact hjl)⟩
  obtain ⟨z, hz⟩ := hr
  unfold splice at hj ⊢
  have l1 : ((u8s r).take off).length = off := by rw [List.length_take, u8s_len]; omega
  have l2 : (cur.take (o + off)).length = o + off := by rw [List.length_take]; omega
  by_cases h1 : j < off
  · rw [List.getElem?_append_left (by omega), List.getElem?_take, if_pos h1] at hj
    rw [List.getElem?_append_left (by omega), List.getElem?_take, if_pos (by omega)]
    exact hx j u hj
  · rw [List.getElem?_append_right (by omega), l1] at hj
    rw [List.getElem?_append_right (by omega), l2, show o + j - (o + off) = j - off by omega]
    by_cases h2 : j - off < (u8s bs).length
    · rw [List.getElem?_append_left h2] at hj ⊢
      exact hj
    · rw [List.getElem?_append_right (by omega), List.getElem?_drop] at hj ⊢
      rw [u8s_len] at hj h2 ⊢
      rw [show off + bs.length + (j - off - bs.length) = j by omega] at hj
      rw [show o + off + bs.length + (j - off - bs.length) = o + j by omega]
      exact hx j u hj
theorem RoomR.row {w : World} {ok : Nat → Prop} {V N : Nat} {b : Option Addr} {d : Nat} {vals : List Value} {rows : List (List Int)} (h : RoomR w ok V N b d vals rows) (hV : 1 ≤ V) {p : Nat} (hp : p < N) : ∃ r g o c cur, rows[p]? = some r ∧ r.length = V ∧ ByteL r ∧ RowAt w ok V N b d vals rows p r g o c cur := by
  obtain ⟨r, hr⟩ : ∃ r, rows[p]? = some r := ⟨_, List.getElem?_eq_getElem (by have := h.len.2; omega)⟩
  obtain ⟨v, hv⟩ : ∃ v, vals[p]? = some v := ⟨_, List.getElem?_eq_getElem (by have := h.len.1; omega)⟩
  obtain ⟨hq, hok, hrl, hrb⟩ := h.each p v r hv hr
  have hq0 := hq
  rcases hq with ⟨_, hn⟩ | ⟨g, o, c, cur, rfl, hg, hc, hm, hs, hx⟩
  · have : r.length = 0 := by rw [← u8s_len, hn]; rfl
    omega
  rw [u8s_len, hrl] at hv hc hok hq0
  refine ⟨r, g, o, c, cur.toList, hr, hrl, hrb, hv, by simpa using hg, ⟨by simpa using hs, hc, hm⟩, hok g rfl, hq0.sees, fun w' off bs ho hby hg' hb => ?_⟩
  have hne : ∀ {e : TypeId} {v : Value} {xs : List Value}, OwnQ w e v xs → e ≠ 5 → ∀ x, v.ownBlock = some x → x ∉ [g] := fun hw9 he x hx hm => by
    simp only [List.mem_singleton] at hm
    subst hm
    obtain ⟨cur', hg2⟩ := hw9.tag _ hx
    rw [hg] at hg2
    simp only [Option.some.injEq, Obj.cells.injEq] at hg2
    exact he hg2.2.1.symm
  refine ⟨h.own.but hb (hne h.own (by decide)), h.okb, ⟨h.len.1, by rw [List.length_set]; exact h.len.2⟩, fun i u s hu hs' => ?_, h.apart⟩
  by_cases hi : i = p
  · subst hi
    rw [hv] at hu
    cases hu
    rw [List.getElem?_set_self (by have := (List.getElem?_eq_some_iff.1 hr).1; exact this)] at hs'
    cases hs'
    have h9 := splice_own (r := r) hg' (by simpa using hs) (by omega) hm (by omega) (fun j u hj => by simpa using hx j u hj)
    rw [hrl] at h9
    exact ⟨h9, hok, by rw [setAt_len (by omega)]; exact hrl, setAt_byte hrb hby⟩
  · rw [List.getElem?_set_ne (Ne.symm hi)] at hs'
    obtain ⟨k1, k2, k3⟩ := h.each i u s hu hs'
    refine ⟨k1.but hb (fun x hx hm => hi (h.apart i p u _ x hu hv hx ?_)), k2, k3⟩
    have e : x = g := (by simpa using hm)
    rw [e]
    rfl
/-- A place of a reference's lru. -/
structure PlaceR (w : World) (ok : Nat → Prop) (R K V N : Nat) (A : LSt) (rows : List (List Int)) (p gv ov d : Nat) (r : List Int) (g o c : Nat) (cur : List Value) : Prop where
  cell5 : w.cell? ⟨R, 5, none⟩ = some (.slice (some ⟨gv, ov, none⟩) N d)
  cellp : w.cell? ⟨gv, ov + p, none⟩ = some (.slice (some ⟨g, o, none⟩) V c)
  row : rows[p]? = some r
  len : r.length = V
  bytes : ByteL r
  cells : w.heap[g]? = some (.cells cur.toArray 5 (0, 0))
  fit : o + c ≤ cur.length ∧ V ≤ c ∧ c ≤ maxLen
  okg : ok g
  sees : Sees w (.slice (some ⟨g, o, none⟩) V c) (u8s r)
  turn : ∀ (w' : World) (off : Nat) (bs : List Int), off + bs.length ≤ V → ByteL bs → w'.heap[g]? = some (.cells (splice cur (o + off) (u8s bs)).toArray 5 (0, 0)) → But [g] w w' → RefL w' ok R K V N A (rows.set p (setAt r off bs))
theorem RefL.place {w : World} {ok : Nat → Prop} {R K V N : Nat} {A : LSt} {rows : List (List Int)} (h : RefL w ok R K V N A rows) {p : Nat} (hp : p < N) : ∃ gv ov d r g o c cur, PlaceR w ok R K V N A rows p gv ov d r g o c cur := by
  obtain ⟨h0, ⟨a, la, b, d, vals, h1, h2, h3, h4⟩, h5, h6, h7⟩ := h
  obtain ⟨r, g, o, c, cur, k1, k2, k3, k4⟩ := h4.row h7.2.1.1 hp
  have hvl := h4.len.1
  have hown := h4.own
  obtain ⟨gv, ov, rfl⟩ := hown.addr (by omega)
  have hcell := hown.cellAt k4.at'
  have hne : R ≠ g := fun e => by
    have := k4.cells
    rw [← e, h1] at this
    simp only [Option.some.injEq, Obj.cells.injEq] at this
    exact absurd this.2.1 (by decide)
  refine ⟨gv, ov, d, r, g, o, c, cur, by rw [cl_of h1, ← hvl]; rfl, hcell, k1, k2, k3, k4.cells, k4.fit, k4.okg, k4.sees, fun w' off bs ho hby hg hb => ⟨h0, ⟨a, la, _, d, vals, hb.heap h1 (by simpa using hne), h2.but hb (fun x hx hm => ?_), h3, k4.turn w' off bs ho hby hg hb⟩, h5, h6, h7⟩⟩
  have e : x = g := (by simpa using hm)
  subst e
  obtain ⟨cur', hc⟩ := h2.tag hx
  rw [k4.cells] at hc
  simp only [Option.some.injEq, Obj.cells.injEq] at hc
  exact absurd hc.2.1 (by decide)
section
variable {w : World} {ok : Nat → Prop} {R K V N : Nat} {A : LSt} {rows : List (List Int)}
theorem findI_some {ks : List Int} {k : Nat} (h : findK A ks = some k) : findI A ks = k := by unfold findI; rw [h]
theorem findI_none {ks : List Int} (h : findK A ks = none) : findI A ks = -1 := by unfold findI; rw [h]
theorem ne_len {a b : Nat} (h : a ≠ b) : ((a : Int) != (b : Int)) = true := by simp only [bne_iff_ne, ne_eq]; omega
theorem eq_len {a b : Nat} (h : a = b) : ((a : Int) != (b : Int)) = false := by rw [h]; simp
theorem turns_new {w' : World} (h : But [] w w') : Turns ok w w' := .of h (by simp)
set_option maxRecDepth 100000 in
set_option maxHeartbeats 4000000 in
theorem RefL.lookup (h : RefL w ok R K V N A rows) (hok : ∀ b, w.heap.size ≤ b → ok b) (a : Option Addr) (c : Nat) {ks : List Int} (hs : Sees w (.slice a ks.length c) (u8s ks)) (hk : ByteL ks) :
    Calls Try.prog 20 #[.pointer (some ⟨R, 0, none⟩), .slice a ks.length c] w fun e w' => e = .returned (.tuple #[.int .i64 (lookA K A ks).1, .int .i64 (lookA K A ks).2.1]) ∧ RefL w' ok R K V N (lookA K A ks).2.2 rows ∧ Turns ok w w' := by
  obtain ⟨la, lc, c4, hP, c1, c2, c3, hlt⟩ := h.slot
  have hn : A.length ≤ 1024 := Nat.le_trans h.len h.bounds.2.2.2
  have HH := Lib.hid h
  have HOK := Lib.hid hok
  have HF := Lib.hid (refFind c4 hP (fun x hx => (h.keys x hx).1) hn hs hk)
  have HP := Lib.hid hP
  by_cases hl : ks.length = K
  · have hle := eq_len hl
    cases hf : findK A ks with
    | none =>
      have e1 : lookA K A ks = (0, 6, A) := by unfold lookA; rw [if_neg (by simp [hl])]; simp [hf]
      rw [e1]
      have HV := Lib.hid (findI_none hf)
      clear h hok hP hs hk hl hf e1
      go_enter Try.func20, Try.ntmps20
      go_wp2_with fail
      refine (calls_val HF.out (v' := .int .i64 (-1)) (by rw [HV.out])).mono ?_
      rintro e w1 ⟨rfl, hb⟩
      have HB := Lib.hid hb
      clear hb
      go_wp2_with fail
      go_ret2
      exact ⟨rfl, HH.out.keep HB.out (by simp), turns_new HB.out⟩
    | some k =>
      have e1 : lookA K A ks = (placeA A k, 0, youngA A k) := by unfold lookA; rw [if_neg (by simp [hl])]; simp [hf]
      rw [e1]
      have HV := Lib.hid (findI_some hf)
      obtain ⟨_, hx⟩ := findK_some hf
      have hkl : k < A.length := (List.getElem?_eq_some_iff.1 hx).1
      obtain ⟨hk0, hk1, _, _⟩ := find_nums hkl hn
      have hk9 : ¬ (k : Int) < 0 := by omega
      obtain ⟨g, rfl⟩ := hP.addr (by omega)
      obtain ⟨p, hp⟩ : ∃ p, p = placeA A k := ⟨_, rfl⟩
      rw [← hp] at hx ⊢
      have HX := Lib.hid hx
      clear h hok hP hs hk hl hf e1 hx hp hkl
      go_enter Try.func20, Try.ntmps20
      go_wp2_with fail
      refine (calls_val HF.out (v' := .int .i64 k) (by rw [HV.out])).mono ?_
      rintro e w1 ⟨rfl, hb⟩
      have k4 : w1.cell? ⟨R, 4, none⟩ = some (.slice (some ⟨g, 0, none⟩) A.length lc) := cell_but hb c4 (by simp)
      obtain ⟨_, d2⟩ := (HP.out.but hb (by simp)).at2 (enc_get HX.out)
      have HB := Lib.hid hb
      have HY := Lib.hid ((HH.out.keep hb (by simp)).younger (fun b hb' => HOK.out b (Nat.le_trans hb.size hb')) HX.out)
      clear hb
      go_wp2_with fail
      refine HY.out.mono ?_
      rintro e w2 ⟨rfl, h2, t2⟩
      have H2 := Lib.hid h2
      have T2 := Lib.hid t2
      clear h2 t2
      go_wp2_with fail
      go_ret2
      exact ⟨rfl, H2.out, turns_trans (turns_new HB.out) T2.out⟩
  · have hle := ne_len hl
    have e1 : lookA K A ks = (0, 2, A) := by unfold lookA; rw [if_pos hl]
    rw [e1]
    clear h hok hP hs hk hl e1
    go_enter Try.func20, Try.ntmps20
    go_wp2_with fail
    go_ret2
    exact ⟨rfl, HH.out, .refl _ _⟩
set_option maxRecDepth 100000 in
set_option maxHeartbeats 4000000 in
theorem RefL.delete (h : RefL w ok R K V N A rows) (hok : ∀ b, w.heap.size ≤ b → ok b) (a : Option Addr) (c : Nat) {ks : List Int} (hs : Sees w (.slice a ks.length c) (u8s ks)) (hk : ByteL ks) :
    Calls Try.prog 21 #[.pointer (some ⟨R, 0, none⟩), .slice a ks.length c] w fun e w' => e = .returned (.int .i64 (delA K A ks).1) ∧ RefL w' ok R K V N (delA K A ks).2 rows ∧ Turns ok w w' := by
  obtain ⟨la, lc, c4, hP, c1, c2, c3, hlt⟩ := h.slot
  have hn : A.length ≤ 1024 := Nat.le_trans h.len h.bounds.2.2.2
  have HH := Lib.hid h
  have HOK := Lib.hid hok
  have HF := Lib.hid (refFind c4 hP (fun x hx => (h.keys x hx).1) hn hs hk)
  by_cases hl : ks.length = K
  · have hle := eq_len hl
    cases hf : findK A ks with
    | none =>
      have e1 : delA K A ks = (6, A) := by unfold delA; rw [if_neg (by simp [hl])]; simp [hf]
      rw [e1]
      have HV := Lib.hid (findI_none hf)
      clear h hok hP hs hk hl hf e1
      go_enter Try.func21, Try.ntmps21
      go_wp2_with fail
      refine (calls_val HF.out (v' := .int .i64 (-1)) (by rw [HV.out])).mono ?_
      rintro e w1 ⟨rfl, hb⟩
      have HB := Lib.hid hb
      clear hb
      go_wp2_with fail
      go_ret
      exact ⟨rfl, HH.out.keep HB.out (by simp), turns_new HB.out⟩
    | some k =>
      have e1 : delA K A ks = (0, A.eraseIdx k) := by unfold delA; rw [if_neg (by simp [hl])]; simp [hf]
      rw [e1]
      have HV := Lib.hid (findI_some hf)
      obtain ⟨_, hx⟩ := findK_some hf
      have hkl : k < A.length := (List.getElem?_eq_some_iff.1 hx).1
      have hk9 : ¬ (k : Int) < 0 := by omega
      have HKL := Lib.hid hkl
      clear h hok hP hs hk hl hf e1 hx hkl
      go_enter Try.func21, Try.ntmps21
      go_wp2_with fail
      refine (calls_val HF.out (v' := .int .i64 k) (by rw [HV.out])).mono ?_
      rintro e w1 ⟨rfl, hb⟩
      have HB := Lib.hid hb
      have HY := Lib.hid ((HH.out.keep hb (by simp)).out (fun b hb' => HOK.out b (Nat.le_trans hb.size hb')) HKL.out)
      clear hb
      go_wp2_with fail
      refine HY.out.mono ?_
      rintro e w2 ⟨rfl, h2, t2⟩
      have H2 := Lib.hid h2
      have T2 := Lib.hid (Turns.of (ok := ok) t2 (fun x hx => by have e : x = R := (by simpa using hx); rw [e]; exact HH.out.okR))
      clear h2 t2
      go_wp2_with fail
      go_ret
      exact ⟨rfl, H2.out, turns_trans (turns_new HB.out) T2.out⟩
  · have hle := ne_len hl
    have e1 : delA K A ks = (2, A) := by unfold delA; rw [if_pos hl]
    rw [e1]
    clear h hok hP hs hk hl e1
    go_enter Try.func21, Try.ntmps21
    go_wp2_with fail
    go_ret
    exact ⟨rfl, HH.out, .refl _ _⟩
end
end Go.Proofs.Ytifgfnifadmoaaa.M
