/-
  Plain: a row of one's own that may begin anywhere in its block: its first thing goes, a thing is put behind. No program.
-/
import Derived.Test.YtpoinhfkgnkedaaHeap
import Derived.Deep.Upon
namespace Go.Proofs.Ytpoinhfkgnkedaa.M
open Go.RowKit
set_option linter.unusedVariables false
set_option linter.unusedSectionVars false
set_option linter.unusedSimpArgs false
def OwnQ (w : World) (e : TypeId) (v : Value) (xs : List Value) : Prop :=
  (v = .slice none 0 0 ∧ xs = []) ∨ ∃ g o cap cur, v = .slice (some ⟨g, o, none⟩) xs.length cap ∧ w.heap[g]? = some (.cells cur e (0, 0)) ∧ xs.length ≤ cap ∧ cap ≤ maxLen ∧ o + cap ≤ cur.size ∧ ∀ j u, xs[j]? = some u → cur[o + j]? = some u
theorem OwnQ.nil (w : World) (e : TypeId) : OwnQ w e (.slice none 0 0) [] := .inl ⟨rfl, rfl⟩
theorem OwnQ.form {w : World} {e : TypeId} {v : Value} {xs : List Value} (h : OwnQ w e v xs) : ∃ a c, v = .slice a xs.length c := by
  rcases h with ⟨rfl, rfl⟩ | ⟨g, o, cap, cur, rfl, _⟩
  · exact ⟨none, 0, rfl⟩
  · exact ⟨_, _, rfl⟩
theorem OwnQ.sees {w : World} {e : TypeId} {v : Value} {xs : List Value} (h : OwnQ w e v xs) : Sees w v xs := by
  rcases h with ⟨rfl, rfl⟩ | ⟨g, o, cap, cur, rfl, hg, hc, hm, hs, hx⟩
  · exact .inl ⟨rfl, rfl⟩
  · refine .inr ⟨⟨g, o, none⟩, cap, rfl, hc, fun j u hj => ?_⟩
    rw [add_at]
    unfold World.cell?
    rw [hg]
    exact hx j u hj
theorem OwnQ.tag {w : World} {e : TypeId} {v : Value} {xs : List Value} (h : OwnQ w e v xs) : ∀ k, v.ownBlock = some k → ∃ cur, w.heap[k]? = some (.cells cur e) := fun k hk => by
  rcases h with ⟨rfl, hn⟩ | ⟨g, o, cap, cur, rfl, hg, rest⟩
  · cases hk
  · cases hk; exact ⟨cur, hg⟩
theorem OwnQ.but {L : List Nat} {w w' : World} {e : TypeId} {v : Value} {xs : List Value} (h : OwnQ w e v xs) (hb : But L w w') (hn : ∀ k, v.ownBlock = some k → k ∉ L) : OwnQ w' e v xs := by
  rcases h with h | ⟨g, o, cap, cur, rfl, hg, rest⟩
  · exact .inl h
  · exact .inr ⟨g, o, cap, cur, rfl, hb.heap hg (hn g rfl), rest⟩
theorem OwnQ.tail1 {w : World} {e : TypeId} {g o : Nat} {x : Value} {xs : List Value} {cap : Nat} (h : OwnQ w e (.slice (some ⟨g, o, none⟩) (x :: xs).length cap) (x :: xs)) (hc : cap = 1) : OwnQ w e (.slice (some ⟨g, o, none⟩) xs.length 0) xs := by
  rcases h with ⟨h, _⟩ | ⟨g', o', cap', cur, he, hg, hc', hm, hs, hx⟩
  · cases h
  · simp only [Value.slice.injEq, Option.some.injEq, Addr.mk.injEq, and_true, true_and] at he
    obtain ⟨⟨rfl, rfl⟩, rfl⟩ := he
    subst hc
    simp only [List.length_cons] at hc'
    have h0 : xs.length = 0 := by omega
    obtain rfl := List.eq_nil_of_length_eq_zero h0
    exact .inr ⟨g, o, 0, cur, rfl, hg, by simp, Nat.zero_le _, by omega, fun j u hj => by simp at hj⟩
theorem OwnQ.tail {w : World} {e : TypeId} {g o : Nat} {x : Value} {xs : List Value} {cap : Nat} (h : OwnQ w e (.slice (some ⟨g, o, none⟩) (x :: xs).length cap) (x :: xs)) : OwnQ w e (.slice (some ⟨g, o + 1, none⟩) xs.length (cap - 1)) xs := by
  rcases h with ⟨h, _⟩ | ⟨g', o', cap', cur, he, hg, hc', hm, hs, hx⟩
  · cases h
  · simp only [Value.slice.injEq, Option.some.injEq, Addr.mk.injEq, and_true, true_and] at he
    obtain ⟨⟨rfl, rfl⟩, rfl⟩ := he
    simp only [List.length_cons] at hc'
    exact .inr ⟨g, o + 1, cap - 1, cur, rfl, hg, by omega, by omega, by omega, fun j u hj => by
      rw [Nat.add_assoc, Nat.add_comm 1 j]
      exact hx (j + 1) u (by simpa using hj)⟩
section
variable {P : Program} {w : World}
theorem run_append_que (t ty e : TypeId) (i : TypeInfo) (z : Value) (bytes : Nat) (ht : P.underlying t = some (.slice e)) (hi : P.info? e = some i) (hz : i.zero = some z) (hsize : i.size = 1) (hby : i.bytes = bytes) (hzs : z.cells.size = 1)
    (v : Value) (xs : List Value) (h : OwnQ w e v xs) (ad : Addr) (c : Nat) (x : Value) (hx : w.cell? ad = some x) (h1 : x.oneCell' = true) (h63 : xs.length + 1 ≤ maxLen) (hbytes : (xs.length + 1) * bytes ≤ 140737488355328) :
    ∃ v' w', (Builtin.append_ #[t, t] ty #[v, .slice (some ad) 1 c]).run P w = .ok v' w' ∧ OwnQ w' e v' (xs ++ [x]) ∧ w.grownBy w' v.ownBlock ∧ (v'.ownBlock = v.ownBlock ∨ v'.ownBlock = some w.heap.size) := by
  have hsrc : Src P i.size t (.slice (some ad) 1 c) 1 [x] w := Src.ofSlice w ht ad 1 c [x] (by simp [hsize]) (fun j u hj => by
    cases j with
    | zero => simp only [List.getElem?_cons_zero, Option.some.injEq] at hj; subst hj; exact hx
    | succ j => simp at hj) (fun u hu => by simp at hu; subst hu; exact h1)
  have grow : ∀ (bs : Option Addr) (sc : Nat), v = .slice bs xs.length sc → sc < xs.length + 1 →
      (Builtin.firstCells i.size xs.length (.slice bs xs.length sc)).run P w.drew = .ok xs.toArray w.drew →
      ∃ v' w', (Builtin.append_ #[t, t] ty #[v, .slice (some ad) 1 c]).run P w = .ok v' w' ∧ OwnQ w' e v' (xs ++ [x]) ∧ w.grownBy w' v.ownBlock ∧ (v'.ownBlock = v.ownBlock ∨ v'.ownBlock = some w.heap.size) := by
    rintro bs sc rfl hg hold
    have hrun := run_append_grow_src (P := P) w t t ty e i z ht hi hz bs xs.length sc xs hold (.slice (some ad) 1 c) 1 [x] hsrc hg (by simp only [maxLen] at h63; omega) (growslice_fits hg (by rw [hby]; exact hbytes))
    have hge := grownCap_ge w (xs.length + 1) sc e
    have hcm := grownCap_le_maxLen w (xs.length + 1) sc e h63
    refine ⟨_, _, hrun, .inr ⟨w.heap.size, 0, _, _, by rw [List.length_append]; rfl, Array.getElem?_push_size, by rw [List.length_append]; exact hge, hcm, ?_, fun j u hj => ?_⟩, ⟨rfl, rfl, rfl, by rw [size_alloc]; exact Nat.le_succ _, fun k hk _ => Below.heap_alloc w.drew _ k hk⟩, .inr rfl⟩
    · rw [Array.size_append, List.size_toArray, size_zeroCells, hzs, List.length_append]
      simp only [List.length_cons, List.length_nil]
      omega
    · have hjl := (List.getElem?_eq_some_iff.1 hj).1
      rw [Nat.zero_add, Array.getElem?_append_left (by simpa using hjl), List.getElem?_toArray]
      exact hj
  rcases h with ⟨rfl, rfl⟩ | ⟨g, o, cap, cur, rfl, hg, hc, hm, hs, hxs⟩
  · exact grow none 0 rfl (by simp) (run_firstCells_none w.drew i.size 0 0 0)
  · by_cases hroom : xs.length + 1 ≤ cap
    · have hcell : ∀ j, o ≤ j → j < o + cap → (w.cell? ⟨g, j, none⟩).isSome = true ∧ w.frozen? ⟨g, j, none⟩ = false := fun j h1 h2 => by
        unfold World.cell? World.frozen?
        rw [hg]
        simp only [Option.isNone_none]
        refine ⟨?_, by simp⟩
        have : j < cur.size := by omega
        simp [this]
      have hrun := run_append_room_src (P := P) w t t ty e i ht hi g o xs.length cap (.slice (some ad) 1 c) 1 [x] hsrc hroom
        (fun j hj => by simp only [List.length_cons, List.length_nil] at hj; rw [hsize]; exact (hcell _ (by omega) (by omega)).1)
        (fun j hj => by simp only [List.length_cons, List.length_nil] at hj; rw [hsize]; exact (hcell _ (by omega) (by omega)).2)
      rw [hsize, Nat.mul_one] at hrun
      have hset : (w.setCells g (o + xs.length) [x]).heap[g]? = some (.cells (cur.setIfInBounds (o + xs.length) x) e (0, 0)) := by
        simp [World.setCells, World.setCell, Array.getElem?_modify, hg]
      refine ⟨_, _, hrun, .inr ⟨g, o, cap, _, by rw [List.length_append]; rfl, hset, by simpa using hroom, hm, by simpa using hs, fun j u hj => ?_⟩, ⟨rfl, rfl, rfl, by simp [World.setCells, World.setCell], fun k hk hne => ?_⟩, .inl rfl⟩
      · rw [Array.getElem?_setIfInBounds]
        by_cases hjx : j < xs.length
        · rw [if_neg (by omega), hxs j u (by rw [List.getElem?_append_left hjx] at hj; exact hj)]
        · have hjl := (List.getElem?_eq_some_iff.1 hj).1
          simp only [List.length_append, List.length_cons, List.length_nil] at hjl
          obtain rfl : j = xs.length := by omega
          rw [List.getElem?_append_right (Nat.le_refl _), Nat.sub_self] at hj
          simp only [List.getElem?_cons_zero, Option.some.injEq] at hj
          subst hj
          rw [if_pos rfl, if_pos (by omega)]
      · exact Below.heap_setCell w ⟨g, o + xs.length, none⟩ x k (fun e => hne (by rw [e]; rfl))
    · refine grow (some ⟨g, o, none⟩) cap rfl (by omega) (run_firstCells_some w.drew i.size xs.length ⟨g, o, none⟩ xs.length cap xs (by rw [hsize, Nat.mul_one]) (fun j u hj => ?_))
      rw [add_at]
      show w.cell? _ = _
      unfold World.cell?
      rw [hg]
      exact hxs j u hj
theorem wpList_append_que {ops : Array Oper} {rest : List Oper} {op : Oper} {a : Act} {Q : Exit → Act → World → Prop} (hgd : op.guard = none) (s x : Operand) (t : TypeId)
    (ho : op.op = .call { callee := .builtin .append, args := #[s, x], argTypes := #[t, t] })
    (e : TypeId) (i : TypeInfo) (z : Value) (bytes : Nat) (ht : P.underlying t = some (.slice e)) (hi : P.info? e = some i) (hz : i.zero = some z)
    (hsize : i.size = 1) (hby : i.bytes = bytes) (hzs : z.cells.size = 1)
    (v : Value) (xs : List Value) (hs : a.eval s = v) (hown : OwnQ w e v xs)
    (ad : Addr) (c : Nat) (u : Value) (hx : a.eval x = .slice (some ad) 1 c) (hu : w.cell? ad = some u) (h1 : u.oneCell' = true)
    (h63 : xs.length + 1 ≤ maxLen) (hbytes : (xs.length + 1) * bytes ≤ 140737488355328)
    (h : ∀ v' w', OwnQ w' e v' (xs ++ [u]) → w.grownBy w' v.ownBlock → (v'.ownBlock = v.ownBlock ∨ v'.ownBlock = some w.heap.size) → wpList P ops Q rest (a.put op.dst v') w') :
    wpList P ops Q (op :: rest) a w := by
  refine wpList_plain hgd fun K hK => ?_
  obtain ⟨v', w', hr, h2, h3, h4⟩ := run_append_que (P := P) t op.type e i z bytes ht hi hz hsize hby hzs v xs hown ad c u hu h1 h63 hbytes
  unfold Oper.wp execOp
  simp only [ho, resolve, invoke, builtin, Sem.run_bind, Sem.run_pure, Result.andThen_ok, List.map_toArray, List.map_cons, List.map_nil, hs, hx, hr]
  exact hK _ _ (h v' w' h2 h3 h4)
end
end Go.Proofs.Ytpoinhfkgnkedaa.M
