/-
  Plain: an append to a row of one's own, told in full: there is room, or a new row is laid. No program.
-/
import Derived.Test.YtpoinhfkgnkedaaQue
namespace Go.Proofs.Ytpoinhfkgnkedaa.M
open Go.RowKit
set_option linter.unusedVariables false
set_option linter.unusedSectionVars false
set_option linter.unusedSimpArgs false
/-- Behind an append of news to v: either v has room, and its block alone turns, beyond v; or a new block is laid, and nothing else turns. -/
def Appended (w w' : World) (e : TypeId) (v v' : Value) (xs news : List Value) : Prop :=
  OwnQ w' e v' (xs ++ news) ∧ ((∃ a cap, v = .slice a xs.length cap ∧ v' = .slice a (xs.length + news.length) cap ∧ OwnQ w' e v xs ∧ But v.ownBlock.toList w w') ∨ (v'.ownBlock = some w.heap.size ∧ But [] w w'))
theorem cells_set {t : TypeId} {g : Nat} : ∀ {news : List Value} {cur : Array Value} {o : Nat} {w : World}, w.heap[g]? = some (.cells cur t (0, 0)) → o + news.length ≤ cur.size →
    ∃ cur', (w.setCells g o news).heap[g]? = some (.cells cur' t (0, 0)) ∧ cur'.size = cur.size ∧ (∀ j, j < o → cur'[j]? = cur[j]?) ∧ (∀ j u, news[j]? = some u → cur'[o + j]? = some u) ∧ (∀ j, o + news.length ≤ j → cur'[j]? = cur[j]?)
  | [], cur, o, w, h, _ => ⟨cur, h, rfl, fun _ _ => rfl, fun j u h => by simp at h, fun _ _ => rfl⟩
  | x :: news, cur, o, w, h, hl => by
    simp only [List.length_cons] at hl
    have h1 : (w.setCell ⟨g, o, none⟩ x).heap[g]? = some (.cells (cur.setIfInBounds o x) t (0, 0)) := by simp [World.setCell, Array.getElem?_modify, h]
    obtain ⟨cur', h2, h3, h4, h5, h6⟩ := cells_set (t := t) (g := g) (news := news) (cur := cur.setIfInBounds o x) (o := o + 1) (w := w.setCell ⟨g, o, none⟩ x) h1 (by simp; omega)
    refine ⟨cur', h2, by rw [h3]; simp, fun j hj => ?_, fun j u hj => ?_, fun j hj => ?_⟩
    · rw [h4 j (by omega), Array.getElem?_setIfInBounds, if_neg (by omega)]
    · cases j with
      | zero =>
        simp only [List.getElem?_cons_zero, Option.some.injEq] at hj
        subst hj
        rw [Nat.add_zero, h4 o (by omega), Array.getElem?_setIfInBounds, if_pos rfl, if_pos (by omega)]
      | succ j => rw [← h5 j u (by simpa using hj)]; congr 1; omega
    · simp only [List.length_cons] at hj
      rw [h6 j (by omega), Array.getElem?_setIfInBounds, if_neg (by omega)]
theorem but_setCells (g : Nat) : ∀ (news : List Value) (o : Nat) (w : World), But [g] w (w.setCells g o news)
  | [], o, w => But.refl _ _
  | x :: news, o, w => (((But.refl [g] w).setCell (p := ⟨g, o, none⟩) (.inl (by simp)) x)).trans (but_setCells g news (o + 1) (w.setCell ⟨g, o, none⟩ x)) (fun y hy => .inl hy)
section
variable {P : Program} {w : World}
theorem run_append_row (t ty e : TypeId) (i : TypeInfo) (z : Value) (bytes : Nat) (ht : P.underlying t = some (.slice e)) (hi : P.info? e = some i) (hz : i.zero = some z) (hsize : i.size = 1) (hby : i.bytes = bytes) (hzs : z.cells.size = 1)
    (v : Value) (xs : List Value) (h : OwnQ w e v xs) (x : Value) (news : List Value) (hsrc : Src P i.size t x news.length news w) (h63 : xs.length + news.length ≤ maxLen) (hbytes : (xs.length + news.length) * bytes ≤ 140737488355328) :
    ∃ v' w', (Builtin.append_ #[t, t] ty #[v, x]).run P w = .ok v' w' ∧ Appended w w' e v v' xs news := by
  have grow : ∀ (bs : Option Addr) (sc : Nat), v = .slice bs xs.length sc → sc < xs.length + news.length →
      (Builtin.firstCells i.size xs.length (.slice bs xs.length sc)).run P w.drew = .ok xs.toArray w.drew →
      ∃ v' w', (Builtin.append_ #[t, t] ty #[v, x]).run P w = .ok v' w' ∧ Appended w w' e v v' xs news := by
    rintro bs sc rfl hg hold
    have hrun := run_append_grow_src (P := P) w t t ty e i z ht hi hz bs xs.length sc xs hold x news.length news hsrc hg (by simp only [maxLen] at h63; omega) (growslice_fits hg (by rw [hby]; exact hbytes))
    have hge := grownCap_ge w (xs.length + news.length) sc e
    have hcm := grownCap_le_maxLen w (xs.length + news.length) sc e h63
    refine ⟨_, _, hrun, .inr ⟨w.heap.size, 0, _, _, by rw [List.length_append], Array.getElem?_push_size, by rw [List.length_append]; exact hge, hcm, ?_, fun j u hj => ?_⟩, .inr ⟨rfl, (But.refl [] w).drew.alloc _⟩⟩
    · rw [Array.size_append, List.size_toArray, size_zeroCells, hzs, List.length_append]
      omega
    · have hjl := (List.getElem?_eq_some_iff.1 hj).1
      rw [Nat.zero_add, Array.getElem?_append_left (by simpa using hjl), List.getElem?_toArray]
      exact hj
  rcases h with ⟨rfl, rfl⟩ | ⟨g, o, cap, cur, rfl, hg, hc, hm, hs, hxs⟩
  · by_cases h0 : news.length = 0
    · obtain rfl : news = [] := List.eq_nil_of_length_eq_zero h0
      exact ⟨_, _, run_append_nothing (P := P) w t t ty e i ht hi none 0 0 (Nat.le_refl _) x hsrc, .inl ⟨rfl, rfl⟩, .inl ⟨none, 0, rfl, rfl, .inl ⟨rfl, rfl⟩, But.refl _ _⟩⟩
    · exact grow none 0 rfl (by simp; omega) (run_firstCells_none w.drew i.size 0 0 0)
  · by_cases hroom : xs.length + news.length ≤ cap
    · have hcell : ∀ j, o ≤ j → j < o + cap → (w.cell? ⟨g, j, none⟩).isSome = true ∧ w.frozen? ⟨g, j, none⟩ = false := fun j h1 h2 => by
        unfold World.cell? World.frozen?
        rw [hg]
        simp only [Option.isNone_none]
        refine ⟨?_, by simp⟩
        have : j < cur.size := by omega
        simp [this]
      have hrun := run_append_room_src (P := P) w t t ty e i ht hi g o xs.length cap x news.length news hsrc hroom
        (fun j hj => by rw [hsize]; exact (hcell _ (by omega) (by omega)).1)
        (fun j hj => by rw [hsize]; exact (hcell _ (by omega) (by omega)).2)
      rw [hsize, Nat.mul_one] at hrun
      obtain ⟨cur', k1, k2, k3, k4, _⟩ := cells_set (t := e) (g := g) (news := news) (cur := cur) (o := o + xs.length) (w := w) hg (by omega)
      refine ⟨_, _, hrun, .inr ⟨g, o, cap, cur', by rw [List.length_append], k1, by rw [List.length_append]; exact hroom, hm, by rw [k2]; exact hs, fun j u hj => ?_⟩, .inl ⟨some ⟨g, o, none⟩, cap, rfl, rfl, .inr ⟨g, o, cap, cur', rfl, k1, hc, hm, by rw [k2]; exact hs, fun j u hj => ?_⟩, but_setCells g news _ w⟩⟩
      · by_cases hjx : j < xs.length
        · rw [k3 (o + j) (by omega), hxs j u (by rw [List.getElem?_append_left hjx] at hj; exact hj)]
        · rw [List.getElem?_append_right (by omega)] at hj
          rw [← k4 (j - xs.length) u hj]
          congr 1
          omega
      · have hjl := (List.getElem?_eq_some_iff.1 hj).1
        rw [k3 (o + j) (by omega), hxs j u hj]
    · refine grow (some ⟨g, o, none⟩) cap rfl (by omega) (run_firstCells_some w.drew i.size xs.length ⟨g, o, none⟩ xs.length cap xs (by rw [hsize, Nat.mul_one]) (fun j u hj => ?_))
      rw [add_at]
      show w.cell? _ = _
      unfold World.cell?
      rw [hg]
      exact hxs j u hj
theorem wpList_append_row {ops : Array Oper} {rest : List Oper} {op : Oper} {a : Act} {Q : Exit → Act → World → Prop} (hgd : op.guard = none) (s x : Operand) (t : TypeId)
    (ho : op.op = .call { callee := .builtin .append, args := #[s, x], argTypes := #[t, t] })
    (e : TypeId) (i : TypeInfo) (z : Value) (bytes : Nat) (ht : P.underlying t = some (.slice e)) (hi : P.info? e = some i) (hz : i.zero = some z)
    (hsize : i.size = 1) (hby : i.bytes = bytes) (hzs : z.cells.size = 1)
    (v : Value) (xs : List Value) (hs : a.eval s = v) (hown : OwnQ w e v xs) (news : List Value) (y : Value) (hx : a.eval x = y) (hsrc : Src P i.size t y news.length news w)
    (h63 : xs.length + news.length ≤ maxLen) (hbytes : (xs.length + news.length) * bytes ≤ 140737488355328)
    (h : ∀ v' w', Appended w w' e v v' xs news → wpList P ops Q rest (a.put op.dst v') w') :
    wpList P ops Q (op :: rest) a w := by
  refine wpList_plain hgd fun K hK => ?_
  obtain ⟨v', w', hr, h2⟩ := run_append_row (P := P) t op.type e i z bytes ht hi hz hsize hby hzs v xs hown y news hsrc h63 hbytes
  unfold Oper.wp execOp
  simp only [ho, resolve, invoke, builtin, Sem.run_bind, Sem.run_pure, Result.andThen_ok, List.map_toArray, List.map_cons, List.map_nil, hs, hx, hr]
  exact hK _ _ (h v' w' h2)
theorem step_append_row {ops : Array Oper} {o : Oper} {a : Act} {K : Act → World → Prop} {Q : Exit → Act → World → Prop} {E : Prop} (hgd : o.guard = none) (s x : Operand) (t : TypeId)
    (ho : o.op = .call { callee := .builtin .append, args := #[s, x], argTypes := #[t, t] })
    (e : TypeId) (i : TypeInfo) (z : Value) (bytes : Nat) (ht : P.underlying t = some (.slice e)) (hi : P.info? e = some i) (hz : i.zero = some z)
    (hsize : i.size = 1) (hby : i.bytes = bytes) (hzs : z.cells.size = 1)
    (v : Value) (xs : List Value) (hs : a.eval s = v) (hown : OwnQ w e v xs) (news : List Value) (y : Value) (hx : a.eval x = y) (hsrc : Src P i.size t y news.length news w)
    (h63 : xs.length + news.length ≤ maxLen) (hbytes : (xs.length + news.length) * bytes ≤ 140737488355328)
    (h : ∀ v' w', Appended w w' e v v' xs news → K (a.put o.dst v') w') :
    if Region.wanted o (yielded ops a.tmps) = true then Oper.wp P o a w K Q else E := by
  have hw : Region.wanted o (yielded ops a.tmps) = true := by simp [Region.wanted, hgd]
  rw [if_pos hw]
  obtain ⟨v', w', hr, h2⟩ := run_append_row (P := P) t o.type e i z bytes ht hi hz hsize hby hzs v xs hown y news hsrc h63 hbytes
  unfold Oper.wp
  simp only [execOp, ho, resolve, invoke, builtin, Sem.run_bind, Sem.run_pure, Result.andThen_ok, List.map_toArray, List.map_cons, List.map_nil, hs, hx, hr]
  exact h v' w' h2
theorem src_sees {size : Nat} {t e : TypeId} (hk : P.underlying t = some (.slice e)) (hsz : size = 1) {s : Value} {xs : List Value} (h : Sees w s xs) (h1 : ∀ u ∈ xs, u.oneCell' = true) : Src P size t s xs.length xs w := by
  subst hsz
  rcases h with ⟨rfl, rfl⟩ | ⟨ad, c, rfl, hc, hx⟩
  · exact Src.ofNil w hk 0
  · exact Src.ofSlice w hk ad xs.length c xs (by simp) hx h1
end
theorem Own.que {w : World} {v : Value} {xs : List Value} (h : Own w v xs) : OwnQ w 5 v xs := by
  rcases h.2 with ⟨rfl, hn⟩ | ⟨g, cap, cur, rfl, _, hg, hc, hm, hs, ht⟩
  · exact .inl ⟨rfl, List.eq_nil_of_length_eq_zero hn⟩
  · refine .inr ⟨g, 0, cap, cur, rfl, hg, hc, hm, by omega, fun j u hj => ?_⟩
    have := h.cells (g := g) rfl j u hj
    rw [add_at] at this
    unfold World.cell? at this
    rw [hg] at this
    simpa using this
end Go.Proofs.Ytpoinhfkgnkedaa.M
