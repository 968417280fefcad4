/-
  A drawn region 'a, b := f(..)' of a record and a value: its operations, then a new block, a store into it, a value. In whatever order. No program.
-/
import Derived.Test.YtmbmmcippglfoaaGE
namespace Go.Proofs.Ytmbmmcippglfoaa.M
open Go.RowKit
set_option linter.unusedVariables false
set_option linter.unusedSectionVars false
set_option linter.unusedSimpArgs false
section
variable {P : Program} {ops : Array Oper} {Q : Exit → Act → World → Prop}
structure InvO (ops : Array Oper) (G : Nat → Value → World → Prop) (w0 : World) (a0 : Act) (m : Nat) (A : Tmp) (zs cx : Array Value) (t : TypeId) (listed : Array Bool) (a : Act) (w : World) : Prop where
  f : InvF ops (But []) G w0 a0 listed a w
  pr : ∃ kA, listed.getD m false = true → BlkP w0 A kA (if listed.getD (m + 1) false then cx else zs) t a w
theorem wp_region_one {id : Nat} {l : List Oper} {a0 : Act} {w0 : World} (m : Nat) (hlen : l.length = m + 3) (hm : P.follows .mixedOrders = true)
    (vals : List Value) (deps : List (List (Nat × Tmp))) (frees : List (List (Tmp × Value))) (hsh : flowB l.toArray = true) (hkn : knowB l.toArray deps (frees.map (·.map (·.1))) = true)
    (hdst : (l.toArray.all fun o => match o.dst with | none => true | some s => decide (s < a0.tmps.size)) = true)
    (hfreeA : FreeA a0 frees)
    (hops : FlowL P Q (But []) (GV vals) w0 0 (l.take m) deps frees)
    (pat : List (Option Tmp)) (hpat : patB l 0 pat = true) (hplen : pat.length = a0.tmps.toList.length)
    {A c sx sz : Tmp} {jx jz : Nat} {oA sA oc : Oper} {zs cx : Array Value} {t : TypeId} {vx vz : Value}
    (hA : l[m]? = some oA) (dA : oA.dst = some A) (hsA : l[m + 1]? = some sA) (dsA : sA.dst = none) (hc : l[m + 2]? = some oc) (dc : oc.dst = some c)
    (hwA : waitsB l.toArray 2 (m + 1) m = true)
    (hwx : (waitsB l.toArray 2 (m + 1) jx && ((l.toArray[jx]?).bind (·.dst) == some sx) && decide (jx < m)) = true) (hvx : vals[jx]? = some vx)
    (hwz : (waitsB l.toArray 2 (m + 2) jz && ((l.toArray[jz]?).bind (·.dst) == some sz) && decide (jz < m)) = true) (hvz : vals[jz]? = some vz)
    (opA : ∀ a w, oA.wp P a w (fun a' w' => a' = a.put oA.dst (ptr0 w.heap.size) ∧ w' = w.alloc (.cells zs t)) Q)
    (osA : ∀ a w k, a.tmps[A]?.getD undef = ptr0 k → a.tmps[sx]?.getD undef = vx → w.heap[k]? = some (.cells zs t) → sA.wp P a w (fun a' w' => (∃ v, a' = a.put sA.dst v) ∧ But [k] w w' ∧ w'.heap[k]? = some (.cells cx t)) Q)
    (ooc : ∀ a w, a.tmps[sz]?.getD undef = vz → oc.wp P a w (fun a' w' => a' = a.put oc.dst vz ∧ w' = w) Q)
    (hend : ∀ (f : Tmp → Value) (w : World) (kA : Nat), But [] w0 w → f A = ptr0 kA → f c = vz → w0.heap.size ≤ kA → w.heap[kA]? = some (.cells cx t) → Q .normal ⟨(frameP pat a0.tmps.toList f).toArray, a0.defers⟩ w) :
    (Code.region id l.toArray true).wp P Q a0 w0 := by
  have hsz : l.toArray.size = l.length := by simp
  have hfree := freeA_at hfreeA
  replace hdst : ∀ (i : Nat) (o : Oper) (s : Tmp), l.toArray[i]? = some o → o.dst = some s → s < a0.tmps.size := fun i o s ho hd => by
    have := Array.all_eq_true_iff_forall_mem.1 hdst o (Array.mem_of_getElem? ho)
    simpa [hd] using this
  have lo : ∀ {i : Nat} {o : Oper}, l[i]? = some o → l.toArray[i]? = some o := fun {i o} h => by simpa using h
  -- what all temporaries hold
  let G : Nat → Value → World → Prop := fun i v _ => (i < m → ∀ u, vals[i]? = some u → v = u) ∧ (i = m + 2 → v = vz)
  refine wp_region_any hm ?_
  refine wpAny_invF (InvO l.toArray G w0 a0 m A zs cx t) ?_ ?_ _ _ _ _ (by simp) (by simp) ?_
  · intro listed a w i hs hI hi
    obtain ⟨hun, o, ho, hall⟩ := mem_ready.1 hi
    have hio := (Array.getElem?_eq_some_iff.1 ho).1
    have hil : i < listed.size := by omega
    have hunF : listed.getD i false = false := by
      rw [Array.getD_eq_getD_getElem?, Array.getElem?_eq_getElem hil] at hun ⊢
      simpa using hun
    have hall' : ∀ o', l.toArray[i]? = some o' → ∀ e ∈ o'.after, Region.binds .any e = true → listed.getD e.on false = true := fun o' ho' => by rw [ho] at ho'; cases ho'; exact hall
    have hg := flow_guard hsh ho
    obtain ⟨hF, kA, pA⟩ := hI
    have hds : ∀ s, o.dst = some s → s < a0.tmps.size := fun s hd => hdst i o s ho hd
    have hev : ∀ (j : Nat) (s : Tmp) (u : Value), waitsB l.toArray 2 i j = true → (l.toArray[j]?).bind (·.dst) = some s → j < m → vals[j]? = some u → a.tmps[s]?.getD undef = u := fun j s u h1 h2 h3 h4 => by
      obtain ⟨oj, hj, hd⟩ := Option.bind_eq_some_iff.1 h2
      have := (hF.done j oj s hj (waits_listed hF.closed 2 i j hall' h1) hd).1 h3 u h4
      rw [← this]; simp [Act.eval]
    -- a step that leaves the block alone
    have both : ∀ {v : Value} {w' : World} {L : List Nat}, i ≠ m → i ≠ m + 1 → But L w w' → (∀ x ∈ L, False) →
        ∃ kA, (listed.setIfInBounds i true).getD m false = true → BlkP w0 A kA (if (listed.setIfInBounds i true).getD (m + 1) false then cx else zs) t (a.put o.dst v) w' := by
      intro v w' L h1 h3 hb hL
      refine ⟨kA, ?_⟩
      rw [getD_set_other (Ne.symm h1), getD_set_other (Ne.symm h3)]
      exact fun h => (pA h).step (fun e => flow_once hsh ho (lo hA) dA (Ne.symm h1) e) hb (fun hx => hL _ hx)
    unfold wpOp
    simp only [ho]
    rw [if_pos (by simp [Region.wanted, hg])]
    refine .inl ?_
    by_cases him : i < m
    · obtain ⟨dd, ff, hdd, hff, h1⟩ := flowL_at hops i o (by rw [List.getElem?_take, if_pos him]; simpa using ho)
      simp only [knowB, Bool.and_eq_true] at hkn
      rw [Nat.zero_add] at h1
      replace h1 := h1 a w hF.but
        (knowF_of fun p hp => by
          have hm : (dd, i) ∈ deps.zipIdx := by
            rw [List.mem_zipIdx_iff_getElem?]
            simpa using hdd
          have h2 := List.all_eq_true.1 (List.all_eq_true.1 hkn.1 _ hm) p hp
          simp only [Bool.and_eq_true, beq_iff_eq] at h2
          obtain ⟨oj, hj, hd⟩ := Option.bind_eq_some_iff.1 h2.2
          have hpl := waits_listed hF.closed 2 i p.1 hall' h2.1
          have hpm : p.1 < m := by
            have hlt : ∀ (n i j : Nat), waitsB l.toArray n i j = true → j < i := by
              intro n
              induction n with
              | zero => intro i j h; cases h
              | succ n ih =>
                intro i j h
                unfold waitsB at h
                cases hoi : l.toArray[i]? with
                | none => rw [hoi] at h; cases h
                | some oi =>
                  rw [hoi] at h
                  obtain ⟨e, he, hb⟩ := Array.any_eq_true'.1 h
                  simp only [Bool.and_eq_true, Bool.or_eq_true, beq_iff_eq] at hb
                  have hle := flow_lex hsh hoi e he hb.1
                  rcases hb.2 with hb2 | hb2
                  · omega
                  · have := ih _ _ hb2; omega
            have := hlt 2 i p.1 h2.1
            omega
          exact fun u hu => (hF.done p.1 oj p.2 hj hpl hd).1 hpm u hu)
        (freeF_of fun p hp => by
          have hmf : (ff.map (·.1), i) ∈ (frees.map (·.map (·.1))).zipIdx := by
            rw [List.mem_zipIdx_iff_getElem?]
            simp [hff]
          have hfr := List.all_eq_true.1 (List.all_eq_true.1 hkn.2 _ hmf) p.1 (List.mem_map.2 ⟨p, hp, rfl⟩)
          have := hF.free p.1 (fun j oj hj hd => by
            cases hl : listed.getD j false with
            | false => rfl
            | true =>
              exfalso
              have hm : (oj, j) ∈ l.toArray.toList.zipIdx := by
                rw [List.mem_zipIdx_iff_getElem?]
                simpa using hj
              have h2 := List.all_eq_true.1 hfr _ hm
              simp only [hd, bne_self_eq_false, Bool.false_or, Bool.or_eq_true, beq_iff_eq] at h2
              rcases h2 with rfl | h2
              · rw [hunF] at hl; cases hl
              · have := waits_listed hF.closed 3 j i (fun o' ho' => hF.closed j o' ho' hl) h2
                rw [hunF] at this; cases this)
          rw [← hfree ff (List.mem_of_getElem? hff) p hp]
          simp only [Act.eval, Array.getD_eq_getD_getElem?]
          rw [this])
      refine Oper.wp_mono ?_ h1
      rintro a' w' ⟨hb, v, rfl, hGi⟩
      exact ⟨invF_step hsh hF ho hunF hil hall hds (hF.but.trans hb (by simp)) (fun _ _ h => h) (fun s _ => ⟨fun _ => hGi, fun e => by omega⟩), both (by omega) (by omega) hb (by simp)⟩
    · have hi5 : i = m ∨ i = m + 1 ∨ i = m + 2 := by omega
      rcases hi5 with rfl | rfl | rfl
      · obtain rfl : oA = o := Option.some.inj ((lo hA).symm.trans ho)
        refine Oper.wp_mono ?_ (opA a w)
        rintro a' w' ⟨rfl, rfl⟩
        have hb : But [] w (w.alloc (.cells zs t)) := (But.refl [] w).alloc _
        refine ⟨invF_step hsh hF ho hunF hil hall hds (hF.but.trans hb (by simp)) (fun _ _ h => h) (fun s _ => ⟨fun e => by omega, fun e => by omega⟩), w.heap.size, ?_⟩
        intro _
        have h2 : listed.getD (i + 1) false = false := by
          cases h : listed.getD (i + 1) false with
          | false => rfl
          | true =>
            exfalso
            have := waits_listed hF.closed 2 (i + 1) i (fun o' ho' => hF.closed _ o' ho' h) hwA
            rw [hunF] at this; cases this
        rw [getD_set_other (by omega), h2, if_neg (by decide)]
        exact ⟨by rw [dA, eval_sameF (by rw [hF.size]; exact hds _ dA)], hF.but.size, heap_alloc_new _ _⟩
      · obtain rfl : sA = o := Option.some.inj ((lo hsA).symm.trans ho)
        have lA : listed.getD m false = true := waits_listed hF.closed 2 (m + 1) m hall' hwA
        obtain ⟨e1, e2, e3⟩ := pA lA
        rw [hunF, if_neg (by decide)] at e3
        simp only [Bool.and_eq_true, beq_iff_eq, decide_eq_true_eq] at hwx
        refine Oper.wp_mono ?_ (osA a w kA (by rw [← e1]; simp [Act.eval]) (hev jx sx vx hwx.1.1 hwx.1.2 hwx.2 hvx) e3)
        rintro a' w' ⟨⟨v, rfl⟩, hb, hc'⟩
        have hb0 : But [] w0 w' := hF.but.trans hb (by simp only [List.mem_singleton]; rintro x rfl; exact .inr e2)
        refine ⟨invF_step hsh hF ho hunF hil hall hds hb0 (fun _ _ h => h) (fun s hd => by rw [dsA] at hd; cases hd), kA, ?_⟩
        intro _
        rw [(getD_setF hil).2 (.inl rfl), if_pos rfl]
        exact ⟨by rw [dsA]; exact e1, e2, hc'⟩
      · obtain rfl : oc = o := Option.some.inj ((lo hc).symm.trans ho)
        simp only [Bool.and_eq_true, beq_iff_eq, decide_eq_true_eq] at hwz
        refine Oper.wp_mono ?_ (ooc a w (hev jz sz vz hwz.1.1 hwz.1.2 hwz.2 hvz))
        rintro a' w' ⟨rfl, rfl⟩
        exact ⟨invF_step hsh hF ho hunF hil hall hds hF.but (fun _ _ h => h) (fun s _ => ⟨fun e => by omega, fun _ => rfl⟩), both (by omega) (by omega) (But.refl [] _) (by simp)⟩
  · intro listed a w hs hI hr
    have hall : ∀ i, i < l.toArray.size → listed.getD i false = true := by
      intro i
      induction i using Nat.strongRecOn with
      | ind i ih =>
        intro hi
        cases hl : listed.getD i false with
        | true => rfl
        | false =>
          exfalso
          have hmem : i ∈ Region.ready .any l.toArray listed := by
            refine mem_ready.2 ⟨?_, l.toArray[i], Array.getElem?_eq_getElem hi, fun e he hb => ?_⟩
            · have hlt : i < listed.size := by omega
              rw [Array.getD_eq_getD_getElem?, Array.getElem?_eq_getElem hlt] at hl ⊢
              simpa using hl
            · have := flow_lex hsh (Array.getElem?_eq_getElem hi) e he hb
              exact ih e.on this (by omega)
          rw [hr] at hmem
          cases hmem
    obtain ⟨hF, kA, pA⟩ := hI
    have l0 := hall m (by omega)
    have l1 := hall (m + 1) (by omega)
    have l2 := hall (m + 2) (by omega)
    obtain ⟨a1, a2, a3⟩ := pA l0
    rw [l1, if_pos rfl] at a3
    have hc4 := (hF.done (m + 2) oc c (lo hc) l2 dc).2 rfl
    have hfin := hend (fun s => a.eval (.tmp s)) w kA hF.but a1 hc4 a2 a3
    have hfr : (⟨frameF (l.take l.length) a0.tmps (fun s => a.eval (.tmp s)), a0.defers⟩ : Act) = a := frame_eqF hF.defers hF.size (fun s hs' => hF.free s (fun j oj hj hd => by
      have hj' : l[j]? = some oj := by simpa using hj
      exact absurd hd (hs' j oj (List.getElem?_eq_some_iff.1 hj').1 hj')))
    rw [List.take_length, frameF_pat hpat hplen] at hfr
    rw [hfr] at hfin
    exact hfin
  · refine ⟨⟨(But.refl [] w0).drew, rfl, rfl, ?_, ?_, fun s _ => rfl⟩, 0, ?_⟩
    · intro j oj hj hl
      have hj' := (Array.getElem?_eq_some_iff.1 hj).1
      have hj2 : j < l.length := by omega
      simp [hj2] at hl
    · intro j oj s hj hl
      have hj' := (Array.getElem?_eq_some_iff.1 hj).1
      have hj2 : j < l.length := by omega
      simp [hj2] at hl
    intro hl; rw [getD_rep] at hl; cases hl
end
end Go.Proofs.Ytmbmmcippglfoaa.M
