/-
  'ArrayKeeps': plain: what stands at the head of a round. Colours: 0 the caller's, 1 the array's, 3 the rows that are kept, 4 the row that is being made, 5 the make.
-/
import Derived.Test.YtkgoblpddjpcnaaArrNew
import Derived.Test.YtkgoblpddjpcnaaCopyB
import Derived.Test.YtkgoblpddjpcnaaOpenS
namespace Go.Proofs.Ytkgoblpddjpcnaa.M
open Go.RowKit Go.Shelf
set_option linter.unusedVariables false
set_option linter.unusedSectionVars false
set_option linter.unusedSimpArgs false
section
variable {H : Type} {enc : TypeId × Value → H} {P : Program} {w : World}
/-- A slice of int, as it comes in. -/
theorem ints_of {t e : TypeId} (ht : P.underlying t = some (.slice e)) (he : P.underlying e = some (.int .i64)) (hc : P.cellsOf e = 1) (h1 : P.bytesOf e = 8) {base : Nat} {v : Value} {d : DataW H} {ps : List MemPlace}
    (hval : Value.okWide P w .any base t v) (h : DataW.Trod enc P w 0 (fun _ => true) true t v d ps) (hsz : ∀ n ∈ d.weights P t, n ≤ reachBytes) :
    ∃ l : List Int, (Sees w v (l.map (.int .i64)) ∧ ∀ z ∈ l, (Lit.int .i64 z).wf = true) ∧ l.length ≤ 140737488351232 := by
  obtain ⟨a1, len, cap, rfl⟩ := WideShapes.okWide_slice ht hval
  obtain ⟨fuel, hf⟩ := h
  rcases ChangeShapes.open_ints ht he hc hf with ⟨hcs, hx⟩ | ⟨a, len', cap', zs, hcs, _, hl, hm, hz, hx, hcell, hwz⟩
  · simp [Value.cells] at hcs
    obtain ⟨rfl, rfl, rfl⟩ := hcs
    exact ⟨[], ⟨.inl ⟨rfl, rfl⟩, (fun u hu => by cases hu)⟩, Nat.zero_le _⟩
  · simp [Value.cells] at hcs
    obtain ⟨rfl, rfl, rfl⟩ := hcs
    simp only [Prod.mk.injEq] at hx
    obtain ⟨rfl, rfl⟩ := hx
    simp only [if_true] at hz
    have hw := hsz (cap * P.bytesOf e) (by
      simp only [DataW.weights, ht, List.mem_cons]
      left
      simp only [ChangeShapes.lits, List.length_map, List.length_take, List.length_drop, hz]
      congr 1
      omega)
    rw [h1] at hw
    have hr : reachBytes = 140737488351232 := rfl
    refine ⟨zs.take len, ⟨.inr ⟨a, cap, ?_, ?_, fun j u hu => ?_⟩, fun z hz => hwz z (List.mem_of_mem_take hz)⟩, ?_⟩
    · simp; omega
    · simp; omega
    · rw [List.getElem?_map] at hu
      obtain ⟨z, hz2, rfl⟩ := Option.map_eq_some_iff.1 hu
      have hj : j < zs.length := by
        have := (List.getElem?_eq_some_iff.1 hz2).1
        simp at this
        omega
      rw [hcell j hj]
      rw [List.getElem?_take] at hz2
      split at hz2
      · simp [List.getD, hz2]
      · cases hz2
    · simp; omega
theorem ints_in {base : Nat} {v : Value} {d : DataW H} {ps : List MemPlace} (hval : Value.okWide Try.prog w .any base 43 v) (h : DataW.Trod enc Try.prog w 0 (fun _ => true) true 43 v d ps) (hsz : ∀ n ∈ d.weights Try.prog 43, n ≤ reachBytes) :
    ∃ l : List Int, (Sees w v (l.map (.int .i64)) ∧ ∀ z ∈ l, (Lit.int .i64 z).wf = true) ∧ l.length ≤ 140737488351232 :=
  ints_of Try.underlying43 Try.underlying3 (by kernel_rfl) (by kernel_rfl) hval h hsz
end
def dye (col : Nat → Nat) (n c : Nat) : Nat → Nat := fun b => if b < n then col b else c
theorem dye_old {col : Nat → Nat} {n c b : Nat} (h : b < n) : dye col n c b = col b := if_pos h
theorem dye_new {col : Nat → Nat} {n c b : Nat} (h : n ≤ b) : dye col n c b = c := if_neg (by omega)
structure KS (w : World) (A sb n ent : Nat) (col : Nat → Nat) (all : Value) (wr : World) (rs ss : List (List Value)) (vals : List Value) : Prop where
  low : ∀ b, b < w.heap.size → col b = 0
  box : wr.heap[sb]? = some (.cells #[.int .u8 1, .int .i64 4, .int .i64 n, .int .i64 ent] 47)
  boxcol : col sb = 5
  arr : ArrS wr (fun b => col b = 1) A n rs
  allq : OwnQ wr 22 all vals
  allcol : ∀ b, all.ownBlock = some b → col b = 3
  len : vals.length = ss.length
  each : ∀ (j : Nat) (v : Value) (r : List Value), vals[j]? = some v → ss[j]? = some r → OwnQ wr 5 v r ∧ ∀ b, v.ownBlock = some b → col b = 3
  apart : ∀ (i j : Nat) (u v : Value) (b : Nat), vals[i]? = some u → vals[j]? = some v → u.ownBlock = some b → v.ownBlock = some b → i = j
  but : But [] w wr
section
variable {w wr w' : World} {A sb n ent : Nat} {col col' : Nat → Nat} {all : Value} {rs ss rs' : List (List Value)} {vals : List Value}
theorem KS.recol (h : KS w A sb n ent col all wr rs ss vals) (hc : ∀ b, b < wr.heap.size → col b ≠ 4 → col' b = col b) : KS w A sb n ent col' all wr rs ss vals where
  low := fun b hb => by
    have h0 := h.low b hb
    rw [hc b (Nat.lt_of_lt_of_le hb h.but.size) (by omega)]
    exact h0
  box := h.box
  boxcol := by rw [hc sb (lt_of h.box) (by rw [h.boxcol]; decide)]; exact h.boxcol
  arr := h.arr.also fun b hb hk => by rw [hc b hb (by rw [hk]; decide)]; exact hk
  allq := h.allq
  allcol := fun b hb => by rw [hc b (h.allq.lt hb) (by rw [h.allcol b hb]; decide)]; exact h.allcol b hb
  len := h.len
  each := fun j v r hv hr => ⟨(h.each j v r hv hr).1, fun b hb => by rw [hc b ((h.each j v r hv hr).1.lt hb) (by rw [(h.each j v r hv hr).2 b hb]; decide)]; exact (h.each j v r hv hr).2 b hb⟩
  apart := h.apart
  but := h.but
theorem KS.dyed (h : KS w A sb n ent col all wr rs ss vals) (c : Nat) : KS w A sb n ent (dye col wr.heap.size c) all wr rs ss vals := h.recol fun b hb _ => dye_old hb
theorem KS.turn (h : KS w A sb n ent col all wr rs ss vals) {L : List Nat} {c : Nat} (hb : But L wr w') (hL : ∀ x ∈ L, col x = c) (hc : c = 1 ∨ c = 4) (hq : c ≠ 1 → rs' = rs) (hQ : c = 1 → ArrS w' (fun b => col b = 1) A n rs') : KS w A sb n ent col all w' rs' ss vals where
  low := h.low
  box := hb.heap h.box (fun hm => by have := hL _ hm; have := h.boxcol; omega)
  boxcol := h.boxcol
  arr := by
    by_cases e : c = 1
    · exact hQ e
    · rw [hq e]; exact h.arr.keep hb fun x hx hk => e ((hL x hx).symm.trans hk)
  allq := h.allq.but hb fun b hb' hm => by have := hL b hm; have := h.allcol b hb'; omega
  allcol := h.allcol
  len := h.len
  each := fun j v r hv hr => ⟨(h.each j v r hv hr).1.but hb fun b hb' hm => by have := hL b hm; have := (h.each j v r hv hr).2 b hb'; omega, (h.each j v r hv hr).2⟩
  apart := h.apart
  but := h.but.trans hb fun x hx => .inr (by
    have h1 := hL x hx
    by_cases hxb : x < w.heap.size
    · have := h.low x hxb; omega
    · omega)
theorem KS.arrTurn (h : KS w A sb n ent col all wr rs ss vals) {g : Nat} (hg : col g = 1) (hb : But [g] wr w') (hQ : ArrS w' (fun b => col b = 1) A n rs') : KS w A sb n ent col all w' rs' ss vals := h.turn hb (fun x hx => by simp only [List.mem_singleton] at hx; rw [hx]; exact hg) (.inl rfl) (fun h => absurd rfl h) (fun _ => hQ)
theorem KS.new (h : KS w A sb n ent col all wr rs ss vals) (hb : But [] wr w') : KS w A sb n ent col all w' rs ss vals := h.turn (c := 4) hb (by simp) (.inr rfl) (fun _ => rfl) (fun h => by cases h)
theorem KS.made (h : KS w A sb n ent col all wr rs ss vals) {L : List Nat} (hb : But L wr w') (hL : ∀ x ∈ L, col x = 4) : KS w A sb n ent col all w' rs ss vals := h.turn hb hL (.inr rfl) (fun _ => rfl) (fun h => by cases h)
theorem KS.allBut (h : KS w A sb n ent col all wr rs ss vals) {L : List Nat} (hb : But L wr w') (hL : ∀ x ∈ L, col x = 3) : (∀ b, b < w.heap.size → b ∉ L) ∧ w'.heap[sb]? = some (.cells #[.int .u8 1, .int .i64 4, .int .i64 n, .int .i64 ent] 47) ∧ ArrS w' (fun b => col b = 1) A n rs ∧ But [] w w' :=
  ⟨fun b hb' hm => by have := hL b hm; have := h.low b hb'; omega, hb.heap h.box (fun hm => by have := hL _ hm; have := h.boxcol; omega), h.arr.keep hb fun x hx hk => by have := hL x hx; omega,
    h.but.trans hb fun x hx => .inr (by
      have h1 := hL x hx
      by_cases hxb : x < w.heap.size
      · have := h.low x hxb; omega
      · omega)⟩
/-- all[k] = v. -/
theorem KS.put {ga o m ac g : Nat} {v : Value} {r : List Value} {c k : Nat} (h : KS w A sb n ent col (.slice (some ⟨ga, o, none⟩) m ac) wr rs ss vals) (hv : OwnQ wr 5 v r) (hvf : v = .slice (some ⟨g, 0, none⟩) n c) (hg : col g = 4) (hk : k < vals.length) :
    ∃ col', KS w A sb n ent col' (.slice (some ⟨ga, o, none⟩) m ac) (wr.setCell ⟨ga, o + k, none⟩ v) rs (ss.set k r) (vals.set k v) := by
  have hvb : v.ownBlock = some g := by rw [hvf]; rfl
  have hgl := hv.lt hvb
  have hgw : w.heap.size ≤ g := by
    by_cases hx : g < w.heap.size
    · have := h.low g hx; omega
    · omega
  refine ⟨fun b => if b = g then 3 else col b, ?_⟩
  have h' : KS w A sb n ent (fun b => if b = g then 3 else col b) (.slice (some ⟨ga, o, none⟩) m ac) wr rs ss vals := h.recol fun b hb hn => if_neg (fun e => hn (by rw [e]; exact hg))
  have hold : ∀ {j : Nat} {u : Value} {b : Nat}, vals[j]? = some u → u.ownBlock = some b → b ≠ g := fun {j u b} hu hb e => by
    obtain ⟨s, hs⟩ : ∃ s, ss[j]? = some s := ⟨_, List.getElem?_eq_getElem (by rw [← h.len]; exact (List.getElem?_eq_some_iff.1 hu).1)⟩
    have := (h.each j u s hu hs).2 b hb
    rw [e] at this
    omega
  have hb : But [ga] wr (wr.setCell ⟨ga, o + k, none⟩ v) := (But.refl _ _).setCell (.inl (by simp)) _
  have hga : (fun b => if b = g then 3 else col b) ga = 3 := h'.allcol ga rfl
  obtain ⟨_, k2, k3, k4⟩ := h'.allBut hb (fun x hx => by simp only [List.mem_singleton] at hx; rw [hx]; exact hga)
  have hrow : ∀ {u : Value} {s : List Value}, OwnQ wr 5 u s → OwnQ (wr.setCell ⟨ga, o + k, none⟩ v) 5 u s := fun ho => ho.but hb (fun b hb' hm => by
    simp only [List.mem_singleton] at hm
    subst hm
    exact ho.ne h.allq (by decide) hb' rfl)
  have hkss : k < ss.length := by rw [← h.len]; exact hk
  exact {
    low := h'.low
    box := k2
    boxcol := h'.boxcol
    arr := k3
    allq := h.allq.set k hk v
    allcol := h'.allcol
    len := by rw [List.length_set, List.length_set]; exact h.len
    each := fun j u s hu hs => by
      by_cases hj : k = j
      · subst hj
        rw [List.getElem?_set_self hk] at hu
        rw [List.getElem?_set_self hkss] at hs
        cases hu; cases hs
        exact ⟨hrow hv, fun b hb => by rw [hvb] at hb; cases hb; exact if_pos rfl⟩
      · rw [List.getElem?_set_ne hj] at hu hs
        exact ⟨hrow (h'.each j u s hu hs).1, (h'.each j u s hu hs).2⟩
    apart := fun i j u u' b hu hu' hb hb' => by
      by_cases hi : k = i
      · by_cases hj : k = j
        · omega
        · subst hi
          rw [List.getElem?_set_self hk] at hu
          rw [List.getElem?_set_ne hj] at hu'
          cases hu
          rw [hvb] at hb
          cases hb
          exact absurd rfl (hold hu' hb')
      · by_cases hj : k = j
        · subst hj
          rw [List.getElem?_set_self hk] at hu'
          rw [List.getElem?_set_ne hi] at hu
          cases hu'
          rw [hvb] at hb'
          cases hb'
          exact absurd rfl (hold hu hb)
        · rw [List.getElem?_set_ne hi] at hu
          rw [List.getElem?_set_ne hj] at hu'
          exact h'.apart i j u u' b hu hu' hb hb'
    but := k4 }
/-- A new row of noughts. -/
theorem KS.zeroRow (h : KS w A sb n ent col all wr rs ss vals) (hn : n ≤ 1024) :
    OwnQ (wr.alloc (.cells (madeCells #[.int .u8 0] n) 5)) 5 (.slice (some ⟨wr.heap.size, 0, none⟩) n n) (zeros n) ∧ dye col wr.heap.size 4 wr.heap.size = 4 ∧ KS w A sb n ent (dye col wr.heap.size 4) all (wr.alloc (.cells (madeCells #[.int .u8 0] n) 5)) rs ss vals :=
  ⟨.inr ⟨wr.heap.size, 0, n, _, by rw [zeros_len], al_at _ _, by rw [zeros_len]; exact Nat.le_refl _, by unfold maxLen; omega, by simp [madeCells], fun j u hj => by rw [Nat.zero_add]; simpa [zeros] using hj⟩, dye_new (Nat.le_refl _), (h.dyed 4).new ((But.refl [] wr).alloc _)⟩
/-- A copy into all[k]. -/
theorem KS.write {g o m c k off : Nat} {r cs cur : List Value} (h : KS w A sb n ent col all wr rs ss vals) (hv : vals[k]? = some (.slice (some ⟨g, o, none⟩) m c)) (hr : ss[k]? = some r) (hg : wr.heap[g]? = some (.cells cur.toArray 5 (0, 0))) (hf : off + cs.length ≤ r.length)
    (hw : w'.heap[g]? = some (.cells (splice cur (o + off) cs).toArray 5 (0, 0))) (hb : But [g] wr w') : KS w A sb n ent col all w' rs (ss.set k (splice r off cs)) vals := by
  obtain ⟨ho, hcol⟩ := h.each k _ r hv hr
  have hgc := hcol g rfl
  obtain ⟨_, k2, k3, k4⟩ := h.allBut hb (fun x hx => by simp only [List.mem_singleton] at hx; rw [hx]; exact hgc)
  have hnew := (OwnQ.spliced (w' := w') (cs := cs) ho hg off hf (by simpa using hw)).2
  have hks : k < ss.length := (List.getElem?_eq_some_iff.1 hr).1
  exact {
    low := h.low
    box := k2
    boxcol := h.boxcol
    arr := k3
    allq := h.allq.but hb (fun b hb' hm => by
      simp only [List.mem_singleton] at hm
      subst hm
      exact ho.ne h.allq (by decide) rfl hb')
    allcol := h.allcol
    len := by rw [List.length_set]; exact h.len
    each := fun j u s hu hs => by
      by_cases hj : k = j
      · subst hj
        rw [hv] at hu
        rw [List.getElem?_set_self hks] at hs
        cases hu; cases hs
        exact ⟨hnew, hcol⟩
      · rw [List.getElem?_set_ne hj] at hs
        refine ⟨(h.each j u s hu hs).1.but hb (fun b hb' hm => ?_), (h.each j u s hu hs).2⟩
        simp only [List.mem_singleton] at hm
        subst hm
        exact hj (h.apart k j _ u _ hv hu rfl hb')
    apart := h.apart
    but := k4 }
end
/-- Nothing is in it yet. -/
theorem KS.start {w w1 wc w2 : World} {A sb n ent : Nat} (h1 : But [] w w1) (hsb : sb = w1.heap.size) (hwc : But [] w1 wc) (hbox : wc.heap[sb]? = some (.cells #[.int .u8 1, .int .i64 4, .int .i64 n, .int .i64 ent] 47)) (h2 : But [] wc w2) (hA : ArrS w2 (fun b => wc.heap.size ≤ b) A n (List.replicate ent (zeros n))) (he : ent ≤ 1024) :
    ∃ col vals, KS w A sb n ent col (.slice (some ⟨w2.heap.size, 0, none⟩) ent ent) (w2.alloc (.cells (madeCells #[.slice none 0 0] ent) 22)) (List.replicate ent (zeros n)) (List.replicate ent []) vals := by
  have hz : ∀ (j : Nat) (v : Value), (madeCells #[Value.slice none 0 0] ent).toList[j]? = some v → v = .slice none 0 0 := fun j v hv => by
    have hm := List.mem_of_getElem? hv
    simp only [madeCells, Array.toList_map, List.mem_map] at hm
    obtain ⟨i, _, rfl⟩ := hm
    simp [Nat.mod_one]
  have hl : (madeCells #[Value.slice none 0 0] ent).toList.length = ent := by simp [madeCells]
  have hsbl : sb < wc.heap.size := lt_of hbox
  have hall : But [] w w2 := (h1.trans hwc (by simp)).trans h2 (by simp)
  refine ⟨dye (dye (fun b => if b = sb then 5 else 0) wc.heap.size 1) w2.heap.size 3, (madeCells #[Value.slice none 0 0] ent).toList, ?_, ?_, ?_, ?_, ?_, ?_, ?_, fun j v r hv hr => ?_, fun i j u v b hu hv hb => ?_, ?_⟩
  · intro b hb
    have := h1.size; have := hwc.size; have := h2.size
    rw [dye_old (by omega), dye_old (by omega), if_neg (by omega)]
  · exact al_keep (h2.heap hbox (by simp)) _
  · have := h2.size
    rw [dye_old (by omega), dye_old hsbl, if_pos rfl]
  · exact (hA.also fun b hb hk => by rw [dye_old hb, dye_new hk]).keep ((But.refl [] _).alloc _) (by simp)
  · exact .inr ⟨w2.heap.size, 0, ent, _, by rw [hl], al_at _ _, by rw [hl]; exact Nat.le_refl _, by unfold maxLen; omega, by simp [madeCells], fun j u hj => by rw [Nat.zero_add]; simpa using hj⟩
  · intro b hb
    cases hb
    exact dye_new (Nat.le_refl _)
  · rw [hl]; simp
  · rw [hz j v hv]
    rw [List.getElem?_replicate] at hr
    split at hr
    · cases hr; exact ⟨OwnQ.nil _ _, fun b hb => by cases hb⟩
    · cases hr
  · rw [hz i u hu] at hb
    cases hb
  · exact hall.alloc _
theorem specE_keep {n ent : Int} (h1 : 1 ≤ n ∧ n ≤ 1024) (h2 : 1 ≤ ent ∧ ent ≤ 1024) : specE 1 4 n ent = 0 := by
  simp only [specE, rowB1, rowE]
  rw [if_pos (by simp [inB, h1, h2])]
theorem lit_boundsK {n : Int} (h : (Lit.int .i64 n).wf = true) : -9223372036854775808 ≤ n ∧ n ≤ 9223372036854775807 := by
  simp only [Lit.wf, Bool.and_eq_true, decide_eq_true_eq] at h
  exact ⟨h.1, h.2⟩
/-- A copy into a row of noughts: a row of bytes. -/
theorem copiedK {w' : World} {g n : Nat} {cs : List Value} (hc : cs.length ≤ n) (hb : ∀ u ∈ cs, ∃ m : Int, u = .int .u8 m) (hm : n ≤ maxLen) (h : w'.heap[g]? = some (.cells (splice (zeros n) 0 cs).toArray 5 (0, 0))) :
    OwnQ w' 5 (.slice (some ⟨g, 0, none⟩) n n) (splice (zeros n) 0 cs) ∧ (∀ u ∈ splice (zeros n) 0 cs, ∃ m : Int, u = .int .u8 m) ∧ (splice (zeros n) 0 cs).length = n := by
  have hl : (splice (zeros n) 0 cs).length = n := by
    rw [length_splice _ _ _ (by rw [zeros_len]; simpa using hc), zeros_len]
  exact ⟨.inr ⟨g, 0, n, _, by rw [hl], h, by rw [hl]; exact Nat.le_refl _, hm, by simp [hl], fun j u hj => by simpa using hj⟩, splice_bytes (zeros_bytes n) hb, hl⟩
theorem sees_takeK {w : World} {xa : Option Addr} {xc n : Nat} {xs : List Value} (h : Sees w (.slice xa xs.length xc) xs) (h0 : 0 < (xs.take n).length) : ∃ ad, xa = some ad ∧ ∀ (j : Nat) (v : Value), (xs.take n)[j]? = some v → w.cell? (ad.add j) = some v := by
  rcases h with ⟨h, rfl⟩ | ⟨ad, c, h, hc, hj⟩
  · simp at h0
  · simp only [Value.slice.injEq] at h
    exact ⟨ad, h.1, fun j v hv => hj j v (by
      rw [List.getElem?_take] at hv
      split at hv
      · exact hv
      · cases hv)⟩
theorem rows_addrK {w : World} {ra : Option Addr} {rn rc : Nat} {rv : List Value} (h : Sees w (.slice ra rn rc) rv) {k : Nat} {x : Value} (hx : rv[k]? = some x) : ∃ ad, ra = some ad ∧ w.cell? (ad.add k) = some x := by
  rcases h with ⟨h, rfl⟩ | ⟨ad, c, h, hc, hj⟩
  · simp at hx
  · simp only [Value.slice.injEq] at h
    exact ⟨ad, h.1, hj k x hx⟩
end Go.Proofs.Ytkgoblpddjpcnaa.M
