/-
  Merged: Que, Row, OwnQ.
-/
import Derived.Test.YtpoinhfkgnkedaaGA
import Derived.Deep.Upon
namespace Go.Proofs.Ytpoinhfkgnkedaa.M
open Go.RowKit
set_option linter.unusedVariables false
set_option linter.unusedSectionVars false
set_option linter.unusedSimpArgs false
def OwnQ (w : World) (e : TypeId) (v : Value) (xs : List Value) : Prop :=
  (v = .slice none 0 0 ∧ xs = []) ∨ ∃ g o cap cur, v = .slice (some ⟨g, o, none⟩) xs.length cap ∧ w.heap[g]? = some (.cells cur e (0, 0)) ∧ xs.length ≤ cap ∧ cap ≤ maxLen ∧ o + cap ≤ cur.size ∧ ∀ j u, xs[j]? = some u → cur[o + j]? = some u
theorem OwnQ.nil (w : World) (e : TypeId) : OwnQ w e (.slice none 0 0) [] := .inl ⟨rfl, rfl⟩
theorem OwnQ.form {w : World} {e : TypeId} {v : Value} {xs : List Value} (h : OwnQ w e v xs) : ∃ a c, v = .slice a xs.length c := by
  rcases h with ⟨rfl, rfl⟩ | ⟨g, o, cap, cur, rfl, _⟩
  · exact ⟨none, 0, rfl⟩
  · exact ⟨_, _, rfl⟩
theorem OwnQ.sees {w : World} {e : TypeId} {v : Value} {xs : List Value} (h : OwnQ w e v xs) : Sees w v xs := by
  rcases h with ⟨rfl, rfl⟩ | ⟨g, o, cap, cur, rfl, hg, hc, hm, hs, hx⟩
  · exact .inl ⟨rfl, rfl⟩
  · refine .inr ⟨⟨g, o, none⟩, cap, rfl, hc, fun j u hj => ?_⟩
    rw [add_at]
    unfold World.cell?
    rw [hg]
    exact hx j u hj
theorem OwnQ.tag {w : World} {e : TypeId} {v : Value} {xs : List Value} (h : OwnQ w e v xs) : ∀ k, v.ownBlock = some k → ∃ cur, w.heap[k]? = some (.cells cur e) := fun k hk => by
  rcases h with ⟨rfl, hn⟩ | ⟨g, o, cap, cur, rfl, hg, rest⟩
  · cases hk
  · cases hk; exact ⟨cur, hg⟩
theorem OwnQ.but {L : List Nat} {w w' : World} {e : TypeId} {v : Value} {xs : List Value} (h : OwnQ w e v xs) (hb : But L w w') (hn : ∀ k, v.ownBlock = some k → k ∉ L) : OwnQ w' e v xs := by
  rcases h with h | ⟨g, o, cap, cur, rfl, hg, rest⟩
  · exact .inl h
  · exact .inr ⟨g, o, cap, cur, rfl, hb.heap hg (hn g rfl), rest⟩
theorem OwnQ.tail1 {w : World} {e : TypeId} {g o : Nat} {x : Value} {xs : List Value} {cap : Nat} (h : OwnQ w e (.slice (some ⟨g, o, none⟩) (x :: xs).length cap) (x :: xs)) (hc : cap = 1) : OwnQ w e (.slice (some ⟨g, o, none⟩) xs.length 0) xs := by
  rcases h with ⟨h, _⟩ | ⟨g', o', cap', cur, he, hg, hc', hm, hs, hx⟩
  · cases h
  · simp only [Value.slice.injEq, Option.some.injEq, Addr.mk.injEq, and_true, true_and] at he
    obtain ⟨⟨rfl, rfl⟩, rfl⟩ := he
    subst hc
    simp only [List.length_cons] at hc'
    have h0 : xs.length = 0 := by omega
    obtain rfl := List.eq_nil_of_length_eq_zero h0
    exact .inr ⟨g, o, 0, cur, rfl, hg, by simp, Nat.zero_le _, by omega, fun j u hj => by simp at hj⟩
theorem OwnQ.tail {w : World} {e : TypeId} {g o : Nat} {x : Value} {xs : List Value} {cap : Nat} (h : OwnQ w e (.slice (some ⟨g, o, none⟩) (x :: xs).length cap) (x :: xs)) : OwnQ w e (.slice (some ⟨g, o + 1, none⟩) xs.length (cap - 1)) xs := by
  rcases h with ⟨h, _⟩ | ⟨g', o', cap', cur, he, hg, hc', hm, hs, hx⟩
  · cases h
  · simp only [Value.slice.injEq, Option.some.injEq, Addr.mk.injEq, and_true, true_and] at he
    obtain ⟨⟨rfl, rfl⟩, rfl⟩ := he
    simp only [List.length_cons] at hc'
    exact .inr ⟨g, o + 1, cap - 1, cur, rfl, hg, by omega, by omega, by omega, fun j u hj => by
      rw [Nat.add_assoc, Nat.add_comm 1 j]
      exact hx (j + 1) u (by simpa using hj)⟩
section
variable {P : Program} {w : World}
theorem run_append_que (t ty e : TypeId) (i : TypeInfo) (z : Value) (bytes : Nat) (ht : P.underlying t = some (.slice e)) (hi : P.info? e = some i) (hz : i.zero = some z) (hsize : i.size = 1) (hby : i.bytes = bytes) (hzs : z.cells.size = 1)
    (v : Value) (xs : List Value) (h : OwnQ w e v xs) (ad : Addr) (c : Nat) (x : Value) (hx : w.cell? ad = some x) (h1 : x.oneCell' = true) (h63 : xs.length + 1 ≤ maxLen) (hbytes : (xs.length + 1) * bytes ≤ 140737488355328) :
    ∃ v' w', (Builtin.append_ #[t, t] ty #[v, .slice (some ad) 1 c]).run P w = .ok v' w' ∧ OwnQ w' e v' (xs ++ [x]) ∧ w.grownBy w' v.ownBlock ∧ (v'.ownBlock = v.ownBlock ∨ v'.ownBlock = some w.heap.size) := by
  have hsrc : Src P i.size t (.slice (some ad) 1 c) 1 [x] w := Src.ofSlice w ht ad 1 c [x] (by simp [hsize]) (fun j u hj => by
    cases j with
    | zero => simp only [List.getElem?_cons_zero, Option.some.injEq] at hj; subst hj; exact hx
    | succ j => simp at hj) (fun u hu => by simp at hu; subst hu; exact h1)
  have grow : ∀ (bs : Option Addr) (sc : Nat), v = .slice bs xs.length sc → sc < xs.length + 1 →
      (Builtin.firstCells i.size xs.length (.slice bs xs.length sc)).run P w.drew = .ok xs.toArray w.drew →
      ∃ v' w', (Builtin.append_ #[t, t] ty #[v, .slice (some ad) 1 c]).run P w = .ok v' w' ∧ OwnQ w' e v' (xs ++ [x]) ∧ w.grownBy w' v.ownBlock ∧ (v'.ownBlock = v.ownBlock ∨ v'.ownBlock = some w.heap.size) := by
    rintro bs sc rfl hg hold
    have hrun := run_append_grow_src (P := P) w t t ty e i z ht hi hz bs xs.length sc xs hold (.slice (some ad) 1 c) 1 [x] hsrc hg (by simp only [maxLen] at h63; omega) (growslice_fits hg (by rw [hby]; exact hbytes))
    have hge := grownCap_ge w (xs.length + 1) sc e
    have hcm := grownCap_le_maxLen w (xs.length + 1) sc e h63
    refine ⟨_, _, hrun, .inr ⟨w.heap.size, 0, _, _, by rw [List.length_append]; rfl, Array.getElem?_push_size, by rw [List.length_append]; exact hge, hcm, ?_, fun j u hj => ?_⟩, ⟨rfl, rfl, rfl, by rw [size_alloc]; exact Nat.le_succ _, fun k hk _ => Below.heap_alloc w.drew _ k hk⟩, .inr rfl⟩
    · rw [Array.size_append, List.size_toArray, size_zeroCells, hzs, List.length_append]
      simp only [List.length_cons, List.length_nil]
      omega
    · have hjl := (List.getElem?_eq_some_iff.1 hj).1
      rw [Nat.zero_add, Array.getElem?_append_left (by simpa using hjl), List.getElem?_toArray]
      exact hj
  rcases h with ⟨rfl, rfl⟩ | ⟨g, o, cap, cur, rfl, hg, hc, hm, hs, hxs⟩
  · exact grow none 0 rfl (by simp) (run_firstCells_none w.drew i.size 0 0 0)
  · by_cases hroom : xs.length + 1 ≤ cap
    · have hcell : ∀ j, o ≤ j → j < o + cap → (w.cell? ⟨g, j, none⟩).isSome = true ∧ w.frozen? ⟨g, j, none⟩ = false := fun j h1 h2 => by
        unfold World.cell? World.frozen?
        rw [hg]
        simp only [Option.isNone_none]
        refine ⟨?_, by simp⟩
        have : j < cur.size := by omega
        simp [this]
      have hrun := run_append_room_src (P := P) w t t ty e i ht hi g o xs.length cap (.slice (some ad) 1 c) 1 [x] hsrc hroom
        (fun j hj => by simp only [List.length_cons, List.length_nil] at hj; rw [hsize]; exact (hcell _ (by omega) (by omega)).1)
        (fun j hj => by simp only [List.length_cons, List.length_nil] at hj; rw [hsize]; exact (hcell _ (by omega) (by omega)).2)
      rw [hsize, Nat.mul_one] at hrun
      have hset : (w.setCells g (o + xs.length) [x]).heap[g]? = some (.cells (cur.setIfInBounds (o + xs.length) x) e (0, 0)) := by
        simp [World.setCells, World.setCell, Array.getElem?_modify, hg]
      refine ⟨_, _, hrun, .inr ⟨g, o, cap, _, by rw [List.length_append]; rfl, hset, by simpa using hroom, hm, by simpa using hs, fun j u hj => ?_⟩, ⟨rfl, rfl, rfl, by simp [World.setCells, World.setCell], fun k hk hne => ?_⟩, .inl rfl⟩
      · rw [Array.getElem?_setIfInBounds]
        by_cases hjx : j < xs.length
        · rw [if_neg (by omega), hxs j u (by rw [List.getElem?_append_left hjx] at hj; exact hj)]
        · have hjl := (List.getElem?_eq_some_iff.1 hj).1
          simp only [List.length_append, List.length_cons, List.length_nil] at hjl
          obtain rfl : j = xs.length := by omega
          rw [List.getElem?_append_right (Nat.le_refl _), Nat.sub_self] at hj
          simp only [List.getElem?_cons_zero, Option.some.injEq] at hj
          subst hj
          rw [if_pos rfl, if_pos (by omega)]
      · exact Below.heap_setCell w ⟨g, o + xs.length, none⟩ x k (fun e => hne (by rw [e]; rfl))
    · refine grow (some ⟨g, o, none⟩) cap rfl (by omega) (run_firstCells_some w.drew i.size xs.length ⟨g, o, none⟩ xs.length cap xs (by rw [hsize, Nat.mul_one]) (fun j u hj => ?_))
      rw [add_at]
      show w.cell? _ = _
      unfold World.cell?
      rw [hg]
      exact hxs j u hj
theorem wpList_append_que {ops : Array Oper} {rest : List Oper} {op : Oper} {a : Act} {Q : Exit → Act → World → Prop} (hgd : op.guard = none) (s x : Operand) (t : TypeId)
    (ho : op.op = .call { callee := .builtin .append, args := #[s, x], argTypes := #[t, t] })
    (e : TypeId) (i : TypeInfo) (z : Value) (bytes : Nat) (ht : P.underlying t = some (.slice e)) (hi : P.info? e = some i) (hz : i.zero = some z)
    (hsize : i.size = 1) (hby : i.bytes = bytes) (hzs : z.cells.size = 1)
    (v : Value) (xs : List Value) (hs : a.eval s = v) (hown : OwnQ w e v xs)
    (ad : Addr) (c : Nat) (u : Value) (hx : a.eval x = .slice (some ad) 1 c) (hu : w.cell? ad = some u) (h1 : u.oneCell' = true)
    (h63 : xs.length + 1 ≤ maxLen) (hbytes : (xs.length + 1) * bytes ≤ 140737488355328)
    (h : ∀ v' w', OwnQ w' e v' (xs ++ [u]) → w.grownBy w' v.ownBlock → (v'.ownBlock = v.ownBlock ∨ v'.ownBlock = some w.heap.size) → wpList P ops Q rest (a.put op.dst v') w') :
    wpList P ops Q (op :: rest) a w := by
  refine wpList_plain hgd fun K hK => ?_
  obtain ⟨v', w', hr, h2, h3, h4⟩ := run_append_que (P := P) t op.type e i z bytes ht hi hz hsize hby hzs v xs hown ad c u hu h1 h63 hbytes
  unfold Oper.wp execOp
  simp only [ho, resolve, invoke, builtin, Sem.run_bind, Sem.run_pure, Result.andThen_ok, List.map_toArray, List.map_cons, List.map_nil, hs, hx, hr]
  exact hK _ _ (h v' w' h2 h3 h4)
end
end Go.Proofs.Ytpoinhfkgnkedaa.M
namespace Go.Proofs.Ytpoinhfkgnkedaa.M
open Go.RowKit
set_option linter.unusedVariables false
set_option linter.unusedSectionVars false
set_option linter.unusedSimpArgs false
/-- Behind an append of news to v: either v has room, and its block alone turns, beyond v; or a new block is laid, and nothing else turns. -/
def Appended (w w' : World) (e : TypeId) (v v' : Value) (xs news : List Value) : Prop :=
  OwnQ w' e v' (xs ++ news) ∧ ((∃ a cap, v = .slice a xs.length cap ∧ v' = .slice a (xs.length + news.length) cap ∧ OwnQ w' e v xs ∧ But v.ownBlock.toList w w') ∨ (v'.ownBlock = some w.heap.size ∧ But [] w w'))
theorem cells_set {t : TypeId} {g : Nat} : ∀ {news : List Value} {cur : Array Value} {o : Nat} {w : World}, w.heap[g]? = some (.cells cur t (0, 0)) → o + news.length ≤ cur.size →
    ∃ cur', (w.setCells g o news).heap[g]? = some (.cells cur' t (0, 0)) ∧ cur'.size = cur.size ∧ (∀ j, j < o → cur'[j]? = cur[j]?) ∧ (∀ j u, news[j]? = some u → cur'[o + j]? = some u) ∧ (∀ j, o + news.length ≤ j → cur'[j]? = cur[j]?)
  | [], cur, o, w, h, _ => ⟨cur, h, rfl, fun _ _ => rfl, fun j u h => by simp at h, fun _ _ => rfl⟩
  | x :: news, cur, o, w, h, hl => by
    simp only [List.length_cons] at hl
    have h1 : (w.setCell ⟨g, o, none⟩ x).heap[g]? = some (.cells (cur.setIfInBounds o x) t (0, 0)) := by simp [World.setCell, Array.getElem?_modify, h]
    obtain ⟨cur', h2, h3, h4, h5, h6⟩ := cells_set (t := t) (g := g) (news := news) (cur := cur.setIfInBounds o x) (o := o + 1) (w := w.setCell ⟨g, o, none⟩ x) h1 (by simp; omega)
    refine ⟨cur', h2, by rw [h3]; simp, fun j hj => ?_, fun j u hj => ?_, fun j hj => ?_⟩
    · rw [h4 j (by omega), Array.getElem?_setIfInBounds, if_neg (by omega)]
    · cases j with
      | zero =>
        simp only [List.getElem?_cons_zero, Option.some.injEq] at hj
        subst hj
        rw [Nat.add_zero, h4 o (by omega), Array.getElem?_setIfInBounds, if_pos rfl, if_pos (by omega)]
      | succ j => rw [← h5 j u (by simpa using hj)]; congr 1; omega
    · simp only [List.length_cons] at hj
      rw [h6 j (by omega), Array.getElem?_setIfInBounds, if_neg (by omega)]
theorem but_setCells (g : Nat) : ∀ (news : List Value) (o : Nat) (w : World), But [g] w (w.setCells g o news)
  | [], o, w => But.refl _ _
  | x :: news, o, w => (((But.refl [g] w).setCell (p := ⟨g, o, none⟩) (.inl (by simp)) x)).trans (but_setCells g news (o + 1) (w.setCell ⟨g, o, none⟩ x)) (fun y hy => .inl hy)
section
variable {P : Program} {w : World}
theorem run_append_row (t ty e : TypeId) (i : TypeInfo) (z : Value) (bytes : Nat) (ht : P.underlying t = some (.slice e)) (hi : P.info? e = some i) (hz : i.zero = some z) (hsize : i.size = 1) (hby : i.bytes = bytes) (hzs : z.cells.size = 1)
    (v : Value) (xs : List Value) (h : OwnQ w e v xs) (x : Value) (news : List Value) (hsrc : Src P i.size t x news.length news w) (h63 : xs.length + news.length ≤ maxLen) (hbytes : (xs.length + news.length) * bytes ≤ 140737488355328) :
    ∃ v' w', (Builtin.append_ #[t, t] ty #[v, x]).run P w = .ok v' w' ∧ Appended w w' e v v' xs news := by
  have grow : ∀ (bs : Option Addr) (sc : Nat), v = .slice bs xs.length sc → sc < xs.length + news.length →
      (Builtin.firstCells i.size xs.length (.slice bs xs.length sc)).run P w.drew = .ok xs.toArray w.drew →
      ∃ v' w', (Builtin.append_ #[t, t] ty #[v, x]).run P w = .ok v' w' ∧ Appended w w' e v v' xs news := by
    rintro bs sc rfl hg hold
    have hrun := run_append_grow_src (P := P) w t t ty e i z ht hi hz bs xs.length sc xs hold x news.length news hsrc hg (by simp only [maxLen] at h63; omega) (growslice_fits hg (by rw [hby]; exact hbytes))
    have hge := grownCap_ge w (xs.length + news.length) sc e
    have hcm := grownCap_le_maxLen w (xs.length + news.length) sc e h63
    refine ⟨_, _, hrun, .inr ⟨w.heap.size, 0, _, _, by rw [List.length_append], Array.getElem?_push_size, by rw [List.length_append]; exact hge, hcm, ?_, fun j u hj => ?_⟩, .inr ⟨rfl, (But.refl [] w).drew.alloc _⟩⟩
    · rw [Array.size_append, List.size_toArray, size_zeroCells, hzs, List.length_append]
      omega
    · have hjl := (List.getElem?_eq_some_iff.1 hj).1
      rw [Nat.zero_add, Array.getElem?_append_left (by simpa using hjl), List.getElem?_toArray]
      exact hj
  rcases h with ⟨rfl, rfl⟩ | ⟨g, o, cap, cur, rfl, hg, hc, hm, hs, hxs⟩
  · by_cases h0 : news.length = 0
    · obtain rfl : news = [] := List.eq_nil_of_length_eq_zero h0
      exact ⟨_, _, run_append_nothing (P := P) w t t ty e i ht hi none 0 0 (Nat.le_refl _) x hsrc, .inl ⟨rfl, rfl⟩, .inl ⟨none, 0, rfl, rfl, .inl ⟨rfl, rfl⟩, But.refl _ _⟩⟩
    · exact grow none 0 rfl (by simp; omega) (run_firstCells_none w.drew i.size 0 0 0)
  · by_cases hroom : xs.length + news.length ≤ cap
    · have hcell : ∀ j, o ≤ j → j < o + cap → (w.cell? ⟨g, j, none⟩).isSome = true ∧ w.frozen? ⟨g, j, none⟩ = false := fun j h1 h2 => by
        unfold World.cell? World.frozen?
        rw [hg]
        simp only [Option.isNone_none]
        refine ⟨?_, by simp⟩
        have : j < cur.size := by omega
        simp [this]
      have hrun := run_append_room_src (P := P) w t t ty e i ht hi g o xs.length cap x news.length news hsrc hroom
        (fun j hj => by rw [hsize]; exact (hcell _ (by omega) (by omega)).1)
        (fun j hj => by rw [hsize]; exact (hcell _ (by omega) (by omega)).2)
      rw [hsize, Nat.mul_one] at hrun
      obtain ⟨cur', k1, k2, k3, k4, _⟩ := cells_set (t := e) (g := g) (news := news) (cur := cur) (o := o + xs.length) (w := w) hg (by omega)
      refine ⟨_, _, hrun, .inr ⟨g, o, cap, cur', by rw [List.length_append], k1, by rw [List.length_append]; exact hroom, hm, by rw [k2]; exact hs, fun j u hj => ?_⟩, .inl ⟨some ⟨g, o, none⟩, cap, rfl, rfl, .inr ⟨g, o, cap, cur', rfl, k1, hc, hm, by rw [k2]; exact hs, fun j u hj => ?_⟩, but_setCells g news _ w⟩⟩
      · by_cases hjx : j < xs.length
        · rw [k3 (o + j) (by omega), hxs j u (by rw [List.getElem?_append_left hjx] at hj; exact hj)]
        · rw [List.getElem?_append_right (by omega)] at hj
          rw [← k4 (j - xs.length) u hj]
          congr 1
          omega
      · have hjl := (List.getElem?_eq_some_iff.1 hj).1
        rw [k3 (o + j) (by omega), hxs j u hj]
    · refine grow (some ⟨g, o, none⟩) cap rfl (by omega) (run_firstCells_some w.drew i.size xs.length ⟨g, o, none⟩ xs.length cap xs (by rw [hsize, Nat.mul_one]) (fun j u hj => ?_))
      rw [add_at]
      show w.cell? _ = _
      unfold World.cell?
      rw [hg]
      exact hxs j u hj
theorem wpList_append_row {ops : Array Oper} {rest : List Oper} {op : Oper} {a : Act} {Q : Exit → Act → World → Prop} (hgd : op.guard = none) (s x : Operand) (t : TypeId)
    (ho : op.op = .call { callee := .builtin .append, args := #[s, x], argTypes := #[t, t] })
    (e : TypeId) (i : TypeInfo) (z : Value) (bytes : Nat) (ht : P.underlying t = some (.slice e)) (hi : P.info? e = some i) (hz : i.zero = some z)
    (hsize : i.size = 1) (hby : i.bytes = bytes) (hzs : z.cells.size = 1)
    (v : Value) (xs : List Value) (hs : a.eval s = v) (hown : OwnQ w e v xs) (news : List Value) (y : Value) (hx : a.eval x = y) (hsrc : Src P i.size t y news.length news w)
    (h63 : xs.length + news.length ≤ maxLen) (hbytes : (xs.length + news.length) * bytes ≤ 140737488355328)
    (h : ∀ v' w', Appended w w' e v v' xs news → wpList P ops Q rest (a.put op.dst v') w') :
    wpList P ops Q (op :: rest) a w := by
  refine wpList_plain hgd fun K hK => ?_
  obtain ⟨v', w', hr, h2⟩ := run_append_row (P := P) t op.type e i z bytes ht hi hz hsize hby hzs v xs hown y news hsrc h63 hbytes
  unfold Oper.wp execOp
  simp only [ho, resolve, invoke, builtin, Sem.run_bind, Sem.run_pure, Result.andThen_ok, List.map_toArray, List.map_cons, List.map_nil, hs, hx, hr]
  exact hK _ _ (h v' w' h2)
theorem step_append_row {ops : Array Oper} {o : Oper} {a : Act} {K : Act → World → Prop} {Q : Exit → Act → World → Prop} {E : Prop} (hgd : o.guard = none) (s x : Operand) (t : TypeId)
    (ho : o.op = .call { callee := .builtin .append, args := #[s, x], argTypes := #[t, t] })
    (e : TypeId) (i : TypeInfo) (z : Value) (bytes : Nat) (ht : P.underlying t = some (.slice e)) (hi : P.info? e = some i) (hz : i.zero = some z)
    (hsize : i.size = 1) (hby : i.bytes = bytes) (hzs : z.cells.size = 1)
    (v : Value) (xs : List Value) (hs : a.eval s = v) (hown : OwnQ w e v xs) (news : List Value) (y : Value) (hx : a.eval x = y) (hsrc : Src P i.size t y news.length news w)
    (h63 : xs.length + news.length ≤ maxLen) (hbytes : (xs.length + news.length) * bytes ≤ 140737488355328)
    (h : ∀ v' w', Appended w w' e v v' xs news → K (a.put o.dst v') w') :
    if Region.wanted o (yielded ops a.tmps) = true then Oper.wp P o a w K Q else E := by
  have hw : Region.wanted o (yielded ops a.tmps) = true := by simp [Region.wanted, hgd]
  rw [if_pos hw]
  obtain ⟨v', w', hr, h2⟩ := run_append_row (P := P) t o.type e i z bytes ht hi hz hsize hby hzs v xs hown y news hsrc h63 hbytes
  unfold Oper.wp
  simp only [execOp, ho, resolve, invoke, builtin, Sem.run_bind, Sem.run_pure, Result.andThen_ok, List.map_toArray, List.map_cons, List.map_nil, hs, hx, hr]
  exact h v' w' h2
theorem src_sees {size : Nat} {t e : TypeId} (hk : P.underlying t = some (.slice e)) (hsz : size = 1) {s : Value} {xs : List Value} (h : Sees w s xs) (h1 : ∀ u ∈ xs, u.oneCell' = true) : Src P size t s xs.length xs w := by
  subst hsz
  rcases h with ⟨rfl, rfl⟩ | ⟨ad, c, rfl, hc, hx⟩
  · exact Src.ofNil w hk 0
  · exact Src.ofSlice w hk ad xs.length c xs (by simp) hx h1
end
theorem Own.que {w : World} {v : Value} {xs : List Value} (h : Own w v xs) : OwnQ w 5 v xs := by
  rcases h.2 with ⟨rfl, hn⟩ | ⟨g, cap, cur, rfl, _, hg, hc, hm, hs, ht⟩
  · exact .inl ⟨rfl, List.eq_nil_of_length_eq_zero hn⟩
  · refine .inr ⟨g, 0, cap, cur, rfl, hg, hc, hm, by omega, fun j u hj => ?_⟩
    have := h.cells (g := g) rfl j u hj
    rw [add_at] at this
    unfold World.cell? at this
    rw [hg] at this
    simpa using this
end Go.Proofs.Ytpoinhfkgnkedaa.M
namespace Go.Proofs.Ytpoinhfkgnkedaa.M
open Go.RowKit
set_option linter.unusedVariables false
set_option linter.unusedSectionVars false
set_option linter.unusedSimpArgs false
theorem OwnQ.lt {w : World} {e : TypeId} {v : Value} {xs : List Value} (h : OwnQ w e v xs) {b : Nat} (hb : v.ownBlock = some b) : b < w.heap.size := by
  obtain ⟨cur, hg⟩ := h.tag b hb
  exact lt_of hg
theorem OwnQ.ne {w : World} {e e' : TypeId} {v v' : Value} {xs ys : List Value} (h : OwnQ w e v xs) (h' : OwnQ w e' v' ys) (he : e ≠ e') {b : Nat} (hb : v.ownBlock = some b) (hb' : v'.ownBlock = some b) : False := by
  obtain ⟨cur, hg⟩ := h.tag b hb
  obtain ⟨cur', hg'⟩ := h'.tag b hb'
  rw [hg] at hg'
  simp only [Option.some.injEq, Obj.cells.injEq] at hg'
  exact he hg'.2.1
theorem OwnQ.cellAt {w : World} {e : TypeId} {g o n cap : Nat} {xs : List Value} (h : OwnQ w e (.slice (some ⟨g, o, none⟩) n cap) xs) {k : Nat} {u : Value} (hk : xs[k]? = some u) : w.cell? ⟨g, o + k, none⟩ = some u := by
  rcases h with ⟨h, _⟩ | ⟨g', o', cap', cur, he, hg, hc, hm, hs, hx⟩
  · cases h
  · simp only [Value.slice.injEq, Option.some.injEq, Addr.mk.injEq, and_true] at he
    obtain ⟨⟨rfl, rfl⟩, _, rfl⟩ := he
    unfold World.cell?
    rw [hg]
    exact hx k u hk
theorem OwnQ.frozenAt {w : World} {e : TypeId} {g o n cap : Nat} {xs : List Value} (h : OwnQ w e (.slice (some ⟨g, o, none⟩) n cap) xs) (j : Nat) : w.frozen? ⟨g, j, none⟩ = false := by
  rcases h with ⟨h, _⟩ | ⟨g', o', cap', cur, he, hg, hc, hm, hs, hx⟩
  · cases h
  · simp only [Value.slice.injEq, Option.some.injEq, Addr.mk.injEq, and_true] at he
    obtain ⟨⟨rfl, rfl⟩, _, rfl⟩ := he
    unfold World.frozen?
    rw [hg]
    simp
theorem OwnQ.set {w : World} {e : TypeId} {g o n cap : Nat} {xs : List Value} (h : OwnQ w e (.slice (some ⟨g, o, none⟩) n cap) xs) (i : Nat) (hi : i < xs.length) (u : Value) : OwnQ (w.setCell ⟨g, o + i, none⟩ u) e (.slice (some ⟨g, o, none⟩) n cap) (xs.set i u) := by
  rcases h with ⟨h, _⟩ | ⟨g', o', cap', cur, he, hg, hc, hm, hs, hx⟩
  · cases h
  · simp only [Value.slice.injEq, Option.some.injEq, Addr.mk.injEq, and_true] at he
    obtain ⟨⟨rfl, rfl⟩, rfl, rfl⟩ := he
    refine .inr ⟨g, o, cap, cur.setIfInBounds (o + i) u, by simp, by simp [World.setCell, Array.getElem?_modify, hg], by simpa using hc, hm, by simpa using hs, fun j v hj => ?_⟩
    rw [Array.getElem?_setIfInBounds]
    by_cases hji : i = j
    · subst hji
      rw [if_pos rfl, if_pos (by omega)]
      rw [List.getElem?_set_self hi] at hj
      exact hj
    · rw [if_neg (by omega)]
      rw [List.getElem?_set_ne hji] at hj
      exact hx j v hj
theorem OwnQ.pre {w : World} {e : TypeId} {a : Option Addr} {n p cap : Nat} {xs : List Value} (h : OwnQ w e (.slice a n cap) xs) (hp : p ≤ xs.length) : OwnQ w e (.slice a p cap) (xs.take p) := by
  rcases h with ⟨h, h0⟩ | ⟨g', o', cap', cur, he, hg, hc, hm, hs, hx⟩
  · simp only [Value.slice.injEq] at h
    obtain ⟨rfl, rfl, rfl⟩ := h
    subst h0
    obtain rfl : p = 0 := by simpa using hp
    exact .inl ⟨rfl, rfl⟩
  · simp only [Value.slice.injEq] at he
    obtain ⟨rfl, rfl, rfl⟩ := he
    exact .inr ⟨g', o', cap, cur, by simp [Nat.min_eq_left hp], hg, by simp; omega, hm, hs, fun j u hj => by
      rw [List.getElem?_take] at hj
      split at hj
      · exact hx j u hj
      · cases hj⟩
theorem OwnQ.len {w : World} {e : TypeId} {a : Option Addr} {n cap : Nat} {xs : List Value} (h : OwnQ w e (.slice a n cap) xs) : xs.length = n := by
  rcases h with ⟨h, h0⟩ | ⟨g', o', cap', cur, he, _⟩
  · simp only [Value.slice.injEq] at h
    rw [h0, h.2.1]; rfl
  · simp only [Value.slice.injEq] at he
    exact he.2.1.symm
theorem OwnQ.addr {w : World} {e : TypeId} {a : Option Addr} {n c : Nat} {xs : List Value} (h : OwnQ w e (.slice a n c) xs) (hn : 0 < n) : ∃ g o, a = some ⟨g, o, none⟩ := by
  rcases h with ⟨h, h0⟩ | ⟨g', o', cap', cur, he, _⟩
  · simp only [Value.slice.injEq] at h; omega
  · simp only [Value.slice.injEq] at he; exact ⟨_, _, he.1⟩
end Go.Proofs.Ytpoinhfkgnkedaa.M
