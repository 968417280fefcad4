/-
  'QueueOrder': plain: what stands at the head of a round. Colours: 1 the queue's, 3 the rows that are kept, 4 the row that is being made, 5 the make.
-/
import Derived.Test.YtdobileefcidjaaQLivesP
import Derived.Test.YtdobileefcidjaaFlatB
import Derived.Laws.CopyOwn
namespace Go.Proofs.Ytdobileefcidjaa.M
open Go.RowKit Go.Shelf
set_option linter.unusedVariables false
set_option linter.unusedSectionVars false
set_option linter.unusedSimpArgs false
theorem But.setRow {L : List Nat} {a b : World} (h : But L a b) {g : Nat} (hp : g ∈ L ∨ a.heap.size ≤ g) (cs : Array Value) : But L a (b.setRow g cs) :=
  ⟨h.os, h.tape, h.output, Nat.le_trans h.size (by simp [World.setRow]), fun i hi hn => (setRow_other b g i cs (fun he => by rcases hp with h1 | h1; exact hn (he ▸ h1); omega)).trans (h.block i hi hn)⟩
theorem wpList_copy_but {P : Program} {w : World} {ops : Array Oper} {rest : List Oper} {o : Oper} {a : Act} {Q : Exit → Act → World → Prop} (hgd : o.guard = none) (d s : Operand) (dT sT : TypeId)
    (ho : o.op = .call { callee := .builtin .copy, args := #[d, s], argTypes := #[dT, sT] }) (elem : TypeId) (hu : P.underlying dT = some (.slice elem)) (hsz : (P.info? elem).map (·.size) = some 1)
    (dp sp : Option Addr) (dLen dCap sLen sCap : Nat) (hd : a.eval d = .slice dp dLen dCap) (hs : a.eval s = .slice sp sLen sCap)
    (g off : Nat) (cur : List Value) (t : TypeId) (hg : w.heap[g]? = some (.cells cur.toArray t (0, 0))) (cs : List Value) (hn : cs.length = Nat.min sLen dLen)
    (hpos : 0 < cs.length → dp = some ⟨g, off, none⟩ ∧ ∃ ad, sp = some ad ∧ ∀ j v, cs[j]? = some v → w.cell? (ad.add j) = some v)
    (hfit : off + cs.length ≤ cur.length) (h1 : ∀ v ∈ cs, v.oneCell' = true)
    (h : ∀ w', w'.heap[g]? = some (.cells (splice cur off cs).toArray t (0, 0)) → But [g] w w' → wpList P ops Q rest (a.put o.dst (goInt cs.length)) w') :
    wpList P ops Q (o :: rest) a w := by
  by_cases h0 : cs.length = 0
  · obtain rfl : cs = [] := List.eq_nil_of_length_eq_zero h0
    refine wpList_copy_nothing hgd d s dT sT ho elem hu hsz dp sp dLen dCap sLen sCap hd hs (by simpa using hn.symm) ?_
    exact h w (by simpa [splice] using hg) (But.refl _ _)
  · obtain ⟨rfl, ad, rfl, hsrc⟩ := hpos (by omega)
    refine wpList_copy_own hgd d s dT sT ho elem hu hsz g off dLen dCap ad sLen sCap hd hs cur.toArray t hg cs hn hsrc (by simpa using hfit) h1 ?_
    exact h _ (by simpa [splice] using setRow_heap w g _ _ t _ hg) ((But.refl _ _).setRow (.inl (by simp)) _)
/-- A copy into a row of noughts: a row of bytes. -/
theorem copied {w w' : World} {g n : Nat} {cs : List Value} (hc : cs.length ≤ n) (hb : IsBytes cs) (hm : n ≤ maxLen) (h : w'.heap[g]? = some (.cells (splice (madeCells #[.int .u8 0] n).toList 0 cs).toArray 5 (0, 0))) :
    OwnQ w' 5 (.slice (some ⟨g, 0, none⟩) n n) (splice (madeCells #[.int .u8 0] n).toList 0 cs) ∧ IsBytes (splice (madeCells #[.int .u8 0] n).toList 0 cs) ∧ (splice (madeCells #[.int .u8 0] n).toList 0 cs).length = n := by
  have hml : (madeCells #[.int .u8 0] n).toList.length = n := by simp [madeCells]
  have hl : (splice (madeCells #[.int .u8 0] n).toList 0 cs).length = n := by
    rw [length_splice _ _ _ (by rw [hml]; simpa using hc), hml]
  refine ⟨.inr ⟨g, 0, n, _, by rw [hl], h, by rw [hl]; exact Nat.le_refl _, hm, by simp [hl], fun j u hj => by simpa using hj⟩, fun u hu => ?_, hl⟩
  unfold splice at hu
  rcases List.mem_append.1 hu with hu | hu
  · exact made_bytes n u (List.mem_of_mem_take hu)
  · rcases List.mem_append.1 hu with hu | hu
    · exact hb u hu
    · exact made_bytes n u (List.mem_of_mem_drop hu)
structure QOrd (w : World) (Q sb : Nat) (stack : Bool) (val ent : Int) (col : Nat → Nat) (all : Value) (wr : World) (rq rs : List (List Value)) (vals : List Value) : Prop where
  low : ∀ b, b < w.heap.size → col b = 0
  box : wr.heap[sb]? = some (.cells #[.int .u8 (kindOf stack), .int .i64 0, .int .i64 val, .int .i64 ent] 24)
  boxcol : col sb = 5
  queue : QueueS wr (fun b => col b = 1) Q stack val ent rq
  allq : OwnQ wr 36 all vals
  allcol : ∀ b, all.ownBlock = some b → col b = 3
  len : vals.length = rs.length
  each : ∀ (j : Nat) (v : Value) (r : List Value), vals[j]? = some v → rs[j]? = some r → OwnQ wr 5 v r ∧ ∀ b, v.ownBlock = some b → col b = 3
  rows : ∀ r ∈ rs, IsBytes r ∧ (r.length : Int) = val
  but : But [] w wr
section
variable {w wr w' : World} {Q sb : Nat} {stack : Bool} {val ent : Int} {col col' : Nat → Nat} {all : Value} {rq rs rq' : List (List Value)} {vals : List Value}
theorem QOrd.recol (h : QOrd w Q sb stack val ent col all wr rq rs vals) (hc : ∀ b, b < wr.heap.size → col b ≠ 4 → col' b = col b) : QOrd w Q sb stack val ent col' all wr rq rs vals where
  low := fun b hb => by
    have h0 := h.low b hb
    rw [hc b (Nat.lt_of_lt_of_le hb h.but.size) (by omega)]
    exact h0
  box := h.box
  boxcol := by rw [hc sb (lt_of h.box) (by rw [h.boxcol]; decide)]; exact h.boxcol
  queue := h.queue.also fun b hb hk => by rw [hc b hb (by rw [hk]; decide)]; exact hk
  allq := h.allq
  allcol := fun b hb => by rw [hc b (h.allq.lt hb) (by rw [h.allcol b hb]; decide)]; exact h.allcol b hb
  len := h.len
  each := fun j v r hv hr => ⟨(h.each j v r hv hr).1, fun b hb => by rw [hc b ((h.each j v r hv hr).1.lt hb) (by rw [(h.each j v r hv hr).2 b hb]; decide)]; exact (h.each j v r hv hr).2 b hb⟩
  rows := h.rows
  but := h.but
theorem QOrd.dyed (h : QOrd w Q sb stack val ent col all wr rq rs vals) (c : Nat) : QOrd w Q sb stack val ent (dye col wr.heap.size c) all wr rq rs vals := h.recol fun b hb _ => dye_old hb
theorem QOrd.turn (h : QOrd w Q sb stack val ent col all wr rq rs vals) {L : List Nat} {c : Nat} (hb : But L wr w') (hL : ∀ x ∈ L, col x = c) (hc : c = 1 ∨ c = 4) (hq : c ≠ 1 → rq' = rq) (hQ : c = 1 → QueueS w' (fun b => col b = 1) Q stack val ent rq') : QOrd w Q sb stack val ent col all w' rq' rs vals where
  low := h.low
  box := hb.heap h.box (fun hm => by have := hL _ hm; have := h.boxcol; omega)
  boxcol := h.boxcol
  queue := by
    by_cases e : c = 1
    · exact hQ e
    · rw [hq e]; exact h.queue.keep hb fun x hx hk => e ((hL x hx).symm.trans hk)
  allq := h.allq.but hb fun b hb' hm => by have := hL b hm; have := h.allcol b hb'; omega
  allcol := h.allcol
  len := h.len
  each := fun j v r hv hr => ⟨(h.each j v r hv hr).1.but hb fun b hb' hm => by have := hL b hm; have := (h.each j v r hv hr).2 b hb'; omega, (h.each j v r hv hr).2⟩
  rows := h.rows
  but := h.but.trans hb fun x hx => .inr (by
    have h1 := hL x hx
    by_cases hxb : x < w.heap.size
    · have := h.low x hxb; omega
    · omega)
theorem QOrd.queueTurn (h : QOrd w Q sb stack val ent col all wr rq rs vals) {L : List Nat} (hb : But L wr w') (hL : ∀ x ∈ L, col x = 1) (hQ : QueueS w' (fun b => col b = 1) Q stack val ent rq') : QOrd w Q sb stack val ent col all w' rq' rs vals := h.turn hb hL (.inl rfl) (fun h => absurd rfl h) (fun _ => hQ)
theorem QOrd.new (h : QOrd w Q sb stack val ent col all wr rq rs vals) (hb : But [] wr w') : QOrd w Q sb stack val ent col all w' rq rs vals := h.turn (c := 4) hb (by simp) (.inr rfl) (fun _ => rfl) (fun h => by cases h)
theorem QOrd.made (h : QOrd w Q sb stack val ent col all wr rq rs vals) {L : List Nat} (hb : But L wr w') (hL : ∀ x ∈ L, col x = 4) : QOrd w Q sb stack val ent col all w' rq rs vals := h.turn hb hL (.inr rfl) (fun _ => rfl) (fun h => by cases h)
/-- all = all[1:]. -/
theorem QOrd.tail {a2 : Option Addr} {c2 : Nat} {v0 : Value} {r0 : List Value} {rs : List (List Value)} {vals : List Value} (h : QOrd w Q sb stack val ent col all wr rq (r0 :: rs) (v0 :: vals)) (hq : OwnQ wr 36 (.slice a2 vals.length c2) vals) (hc : ∀ b, (Value.slice a2 vals.length c2).ownBlock = some b → all.ownBlock = some b) : QOrd w Q sb stack val ent col (.slice a2 vals.length c2) wr rq rs vals where
  low := h.low
  box := h.box
  boxcol := h.boxcol
  queue := h.queue
  allq := hq
  allcol := fun b hb => h.allcol b (hc b hb)
  len := by have := h.len; simpa using this
  each := fun j v r hv hr => h.each (j + 1) v r (by simpa using hv) (by simpa using hr)
  rows := fun r hr => h.rows r (by simp [hr])
  but := h.but
/-- all = append(all, v). -/
theorem QOrd.add {all' v : Value} {r : List Value} {o : Obj} {g : Nat} {n c : Nat} (h : QOrd w Q sb stack val ent col all wr rq rs vals) (hvf : v = .slice (some ⟨g, 0, none⟩) n c) (hv : OwnQ wr 5 v r) (hr : IsBytes r ∧ (r.length : Int) = val) (hg : col g = 4) (hap : Appended (wr.alloc o) w' 36 all all' vals [v]) :
    ∃ col', QOrd w Q sb stack val ent col' all' w' rq (rs ++ [r]) (vals ++ [v]) := by
  have hvb : v.ownBlock = some g := by rw [hvf]; rfl
  have hgl := hv.lt hvb
  have hgw : w.heap.size ≤ g := by
    by_cases hx : g < w.heap.size
    · have := h.low g hx; omega
    · omega
  refine ⟨dye (fun b => if b = g then 3 else col b) wr.heap.size 3, ?_⟩
  have h' : QOrd w Q sb stack val ent (dye (fun b => if b = g then 3 else col b) wr.heap.size 3) all wr rq rs vals := h.recol fun b hb hn => by
    rw [dye_old hb]
    show (if b = g then 3 else col b) = col b
    rw [if_neg (fun e => hn (by rw [e]; exact hg))]
  have hcg : dye (fun b => if b = g then 3 else col b) wr.heap.size 3 g = 3 := by
    rw [dye_old hgl]
    show (if g = g then 3 else col g) = 3
    rw [if_pos rfl]
  have hnew : ∀ b, wr.heap.size ≤ b → dye (fun b => if b = g then 3 else col b) wr.heap.size 3 b = 3 := fun b hb => dye_new hb
  obtain ⟨hq, hc⟩ := hap
  have hb0 : But [] wr (wr.alloc o) := (But.refl _ _).alloc _
  have hb5 : But all.ownBlock.toList wr w' ∧ ∀ b, all'.ownBlock = some b → dye (fun b => if b = g then 3 else col b) wr.heap.size 3 b = 3 := by
    rcases hc with ⟨a2, cap, e1, e2, _, hb⟩ | ⟨hn, hb⟩
    · refine ⟨(hb0.mono (by simp)).trans hb (fun x h => .inl h), fun b hb' => h'.allcol b ?_⟩
      rw [e1]
      rw [e2] at hb'
      exact (own_addr _ _ _ _ _).trans hb'
    · refine ⟨(hb0.trans hb (by simp)).mono (by simp), fun b hb' => hnew b ?_⟩
      rw [hn] at hb'
      cases hb'
      rw [size_alloc]
      omega
  have hL : ∀ x ∈ all.ownBlock.toList, dye (fun b => if b = g then 3 else col b) wr.heap.size 3 x = 3 := fun x hx => h'.allcol x (by simpa using hx)
  have hrow : ∀ {u : Value} {ys : List Value}, OwnQ wr 5 u ys → OwnQ w' 5 u ys := fun ho => ho.but hb5.1 (fun b hb hm => ho.ne h'.allq (by decide) hb (by simpa using hm))
  exact {
    low := h'.low
    box := hb5.1.heap h'.box (fun hm => by have := hL _ hm; have := h'.boxcol; omega)
    boxcol := h'.boxcol
    queue := h'.queue.keep hb5.1 fun x hx hk => by have := hL x hx; omega
    allq := hq
    allcol := hb5.2
    len := by rw [List.length_append, List.length_append, h'.len]; rfl
    each := fun j u s hu hs => by
      by_cases hj : j < vals.length
      · rw [List.getElem?_append_left hj] at hu
        rw [List.getElem?_append_left (by rw [← h'.len]; exact hj)] at hs
        exact ⟨hrow (h'.each j u s hu hs).1, (h'.each j u s hu hs).2⟩
      · rw [List.getElem?_append_right (by omega)] at hu
        rw [List.getElem?_append_right (by rw [← h'.len]; omega), ← h'.len] at hs
        cases hjj : j - vals.length with
        | zero =>
          rw [hjj] at hu hs
          simp only [List.getElem?_cons_zero, Option.some.injEq] at hu hs
          subst hs
          rw [← hu]
          exact ⟨hrow hv, fun b hb => by rw [hvb] at hb; cases hb; exact hcg⟩
        | succ m => rw [hjj] at hu; simp at hu
    rows := fun s hs => by
      rcases List.mem_append.1 hs with hs | hs
      · exact h'.rows s hs
      · simp only [List.mem_singleton] at hs; subst hs; exact hr
    but := h'.but.trans hb5.1 fun x hx => .inr (by
      have h2 := hL x hx
      by_cases hxb : x < w.heap.size
      · have := h'.low x hxb; omega
      · omega) }
end
end Go.Proofs.Ytdobileefcidjaa.M
