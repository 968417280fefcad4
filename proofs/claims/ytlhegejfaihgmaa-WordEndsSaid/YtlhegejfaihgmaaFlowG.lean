/-
  XFlow with guards: '&&', '||': an operation that its guard keeps away leaves nothing. No program.
-/
import Derived.Test.YtlhegejfaihgmaaFlow
namespace Go.Proofs.Ytlhegejfaihgmaa.M
open Go.RowKit
set_option linter.unusedVariables false
set_option linter.unusedSectionVars false
set_option linter.unusedSimpArgs false
section
variable {P : Program} {ops : Array Oper} {Q : Exit → Act → World → Prop}
theorem wpOpG {i : Nat} {o : Oper} {a : Act} {w : World} {K N : Act → World → Prop} (ho : ops[i]? = some o) (hN : ∀ a w, N a w → K a w)
    (h : if Region.wanted o (yielded ops a.tmps) = true then o.wp P a w N Q else N (a.put o.dst undef) w) : wpOp P ops Q i K a w := by
  unfold wpOp
  simp only [ho]
  split
  · rename_i hw
    rw [if_pos hw] at h
    exact .inl (Oper.wp_mono hN h)
  · rename_i hw
    rw [if_neg hw] at h
    exact hN _ _ h
/-- For the kernel: each waits on earlier ones alone; no temporary is written twice. -/
def flowBG (ops : Array Oper) : Bool :=
  (List.range ops.size).all fun i => match ops[i]? with
    | none => false
    | some o => o.after.all (fun e => !Region.binds .any e || decide (e.on < i)) &&
      (List.range ops.size).all fun j => match ops[j]? with
        | none => false
        | some oj => match oj.dst with
          | none => true
          | some d => j == i || o.dst != some d
theorem flow_lexG (h : flowBG ops = true) {i : Nat} {o : Oper} (ho : ops[i]? = some o) : ∀ e ∈ o.after, Region.binds .any e = true → e.on < i := by
  have hi := (Array.getElem?_eq_some_iff.1 ho).1
  have := List.all_eq_true.1 h i (by simpa using hi)
  simp only [ho, Bool.and_eq_true] at this
  intro e he hb
  have h2 := Array.all_eq_true_iff_forall_mem.1 this.1 e he
  simpa [hb] using h2
theorem flow_onceG (h : flowBG ops = true) {i j : Nat} {o oj : Oper} (ho : ops[i]? = some o) (hoj : ops[j]? = some oj) {d : Tmp} (hd : oj.dst = some d) (hne : j ≠ i) : o.dst ≠ some d := by
  have hi := (Array.getElem?_eq_some_iff.1 ho).1
  have hj := (Array.getElem?_eq_some_iff.1 hoj).1
  have := List.all_eq_true.1 h i (by simpa using hi)
  simp only [ho, Bool.and_eq_true] at this
  have h2 := List.all_eq_true.1 this.2 j (by simpa using hj)
  simp only [hoj, hd, Bool.or_eq_true, beq_iff_eq, bne_iff_ne] at h2
  exact h2.resolve_left hne
/-- What is to be shown of each operation. -/
def FlowLG (P : Program) (ops : Array Oper) (Q : Exit → Act → World → Prop) (R : World → World → Prop) (G : Nat → Value → World → Prop) (w0 : World) : Nat → List Oper → List (List (Nat × Tmp)) → List (List (Tmp × Value)) → Prop
  | _, [], _, _ => True
  | i, o :: os, d :: ds, f :: fs => (∀ (a : Act) (w : World), R w0 w → KnowF G a w d → FreeF a f → if Region.wanted o (yielded ops a.tmps) = true then o.wp P a w (fun a' w' => R w w' ∧ ∃ v, a' = a.put o.dst v ∧ G i v w') Q else R w w ∧ ∃ v, a.put o.dst undef = a.put o.dst v ∧ G i v w) ∧ FlowLG P ops Q R G w0 (i + 1) os ds fs
  | _, _ :: _, _, _ => False
theorem flowLG_at {R : World → World → Prop} {G : Nat → Value → World → Prop} {w0 : World} : ∀ {os : List Oper} {ds : List (List (Nat × Tmp))} {fs : List (List (Tmp × Value))} {k : Nat}, FlowLG P ops Q R G w0 k os ds fs → ∀ (i : Nat) (o : Oper), os[i]? = some o →
    ∃ d f, ds[i]? = some d ∧ fs[i]? = some f ∧ ∀ (a : Act) (w : World), R w0 w → KnowF G a w d → FreeF a f → if Region.wanted o (yielded ops a.tmps) = true then o.wp P a w (fun a' w' => R w w' ∧ ∃ v, a' = a.put o.dst v ∧ G (k + i) v w') Q else R w w ∧ ∃ v, a.put o.dst undef = a.put o.dst v ∧ G (k + i) v w
  | [], _, _, _, _, i, o, ho => by simp at ho
  | x :: os, [], _, _, h, i, o, ho => by simp [FlowLG] at h
  | x :: os, d :: ds, [], _, h, i, o, ho => by simp [FlowLG] at h
  | x :: os, d :: ds, f :: fs, k, h, 0, o, ho => by
    simp only [List.getElem?_cons_zero, Option.some.injEq] at ho
    subst ho
    exact ⟨d, f, rfl, rfl, h.1⟩
  | x :: os, d :: ds, f :: fs, k, h, i + 1, o, ho => by
    simp only [List.getElem?_cons_succ] at ho
    obtain ⟨d', f', h1, h2, h3⟩ := flowLG_at h.2 i o ho
    refine ⟨d', f', by simpa using h1, by simpa using h2, ?_⟩
    rw [show k + (i + 1) = k + 1 + i by omega]
    exact h3
theorem wp_region_flowG {id : Nat} {l : List Oper} {a0 : Act} {w0 : World} (m : Nat) (hml : m < l.length) (hm : P.follows .mixedOrders = true) (R : World → World → Prop) (htrans : ∀ a b c, R a b → R b c → R a c) (hdraw : R w0 { w0 with drawn := w0.drawn + 1 })
    (G : Nat → Value → World → Prop) (deps : List (List (Nat × Tmp))) (frees : List (List (Tmp × Value))) (hsh : flowBG l.toArray = true) (htl : tailB l.toArray m = true) (hkn : knowB l.toArray deps (frees.map (·.map (·.1))) = true)
    (hdst : (l.toArray.all fun o => match o.dst with | none => true | some s => decide (s < a0.tmps.size)) = true)
    (hfreeA : FreeA a0 frees)
    (hkeep : ∀ i v w w', R w0 w → G i v w → R w w' → G i v w')
    (hops : FlowLG P l.toArray Q R G w0 0 (l.take m) deps frees)
    (hend : ∀ (f : Tmp → Value) (w : World), R w0 w → (∀ (i : Nat) (o : Oper) (s : Tmp), i < m → l[i]? = some o → o.dst = some s → G i (f s) w) → wpList P l.toArray Q (l.drop m) ⟨frameF (l.take m) a0.tmps f, a0.defers⟩ w) :
    (Code.region id l.toArray true).wp P Q a0 w0 := by
  have hsz : l.toArray.size = l.length := by simp
  have hfree := freeA_at hfreeA
  replace hdst : ∀ (i : Nat) (o : Oper) (s : Tmp), l.toArray[i]? = some o → o.dst = some s → s < a0.tmps.size := fun i o s ho hd => by
    have := Array.all_eq_true_iff_forall_mem.1 hdst o (Array.mem_of_getElem? ho)
    simpa [hd] using this
  have hlo : ∀ (i : Nat) (o : Oper), l.toArray[i]? = some o ↔ l[i]? = some o := fun i o => by simp
  simp only [tailB, Bool.and_eq_true] at htl
  have hsuc : ∀ i, i < m → ∃ j, i < j ∧ j ≤ m ∧ waitsB l.toArray 1 j i = true := fun i hi => by
    have h1 := List.all_eq_true.1 htl.1 i (by simpa using hi)
    obtain ⟨j, hj, h2⟩ := List.any_eq_true.1 h1
    simp only [Bool.and_eq_true, decide_eq_true_eq] at h2
    have hj' : j < m + 1 := by simpa using hj
    exact ⟨j, h2.1, by omega, h2.2⟩
  have hpre : ∀ i, m < i → i < l.length → waitsB l.toArray 1 i (i - 1) = true := fun i h1 h2 => by
    have h3 := List.all_eq_true.1 htl.2 i (by simpa using h2)
    simp only [Bool.or_eq_true, decide_eq_true_eq] at h3
    exact h3.resolve_left (by omega)
  refine wp_region_any hm ?_
  refine wpAny_invF (InvT P l.toArray Q R G w0 a0 m) ?_ ?_ _ _ _ _ (by simp) (by simp) ?_
  · intro listed a w i hs hI hi
    obtain ⟨hun, o, ho, hall⟩ := mem_ready.1 hi
    have hio := (Array.getElem?_eq_some_iff.1 ho).1
    have hil : i < listed.size := by omega
    have hunF : listed.getD i false = false := by
      rw [Array.getD_eq_getD_getElem?, Array.getElem?_eq_getElem hil] at hun ⊢
      simpa using hun
    have hall' : ∀ o', l.toArray[i]? = some o' → ∀ e ∈ o'.after, Region.binds .any e = true → listed.getD e.on false = true := fun o' ho' => by rw [ho] at ho'; cases ho'; exact hall
    rcases hI with ⟨hhi, hI⟩ | ⟨k, hk1, hk2, hk3, hk4⟩
    · by_cases him : i < m
      · obtain ⟨dd, ff, hdd, hff, h1⟩ := flowLG_at hops i o (by rw [List.getElem?_take, if_pos him]; simpa using ho)
        simp only [knowB, Bool.and_eq_true] at hkn
        rw [Nat.zero_add] at h1
        replace h1 := h1 a w hI.but
          (knowF_of fun p hp => by
            have hm : (dd, i) ∈ deps.zipIdx := by
              rw [List.mem_zipIdx_iff_getElem?]
              simpa using hdd
            have h2 := List.all_eq_true.1 (List.all_eq_true.1 hkn.1 _ hm) p hp
            simp only [Bool.and_eq_true, beq_iff_eq] at h2
            obtain ⟨oj, hj, hd⟩ := Option.bind_eq_some_iff.1 h2.2
            exact hI.done p.1 oj p.2 hj (waits_listed hI.closed 2 i p.1 hall' h2.1) hd)
          (freeF_of fun p hp => by
            have hmf : (ff.map (·.1), i) ∈ (frees.map (·.map (·.1))).zipIdx := by
              rw [List.mem_zipIdx_iff_getElem?]
              simp [hff]
            have hfr := List.all_eq_true.1 (List.all_eq_true.1 hkn.2 _ hmf) p.1 (List.mem_map.2 ⟨p, hp, rfl⟩)
            have := hI.free p.1 (fun j oj hj hd => by
              cases hl : listed.getD j false with
              | false => rfl
              | true =>
                exfalso
                have hm : (oj, j) ∈ l.toArray.toList.zipIdx := by
                  rw [List.mem_zipIdx_iff_getElem?]
                  simpa using hj
                have h2 := List.all_eq_true.1 hfr _ hm
                simp only [hd, bne_self_eq_false, Bool.false_or, Bool.or_eq_true, beq_iff_eq] at h2
                rcases h2 with rfl | h2
                · rw [hunF] at hl; cases hl
                · have := waits_listed hI.closed 3 j i (fun o' ho' => hI.closed j o' ho' hl) h2
                  rw [hunF] at this; cases this)
            rw [← hfree ff (List.mem_of_getElem? hff) p hp]
            simp only [Act.eval, Array.getD_eq_getD_getElem?]
            rw [this])
        refine wpOpG (N := fun a' w' => R w w' ∧ ∃ v, a' = a.put o.dst v ∧ G i v w') ho ?_ h1
        rintro a' w' ⟨hb, v, rfl, hGi⟩
        refine .inl ⟨fun j hj => ?_, htrans _ _ _ hI.but hb, ?_, ?_, ?_, ?_, ?_⟩
        · rw [getD_set_ne false (by omega)]
          exact hhi j hj
        · cases o.dst <;> exact hI.defers
        · cases o.dst
          · exact hI.size
          · simpa [Act.put] using hI.size
        · intro j oj hj hl e he hbi
          rw [getD_setF hil]
          rcases (getD_setF hil).1 hl with rfl | hl
          · rw [ho] at hj; cases hj; exact .inr (hall e he hbi)
          · exact .inr (hI.closed j oj hj hl e he hbi)
        · intro j oj s hj hl hd
          rcases (getD_setF hil).1 hl with rfl | hl2
          · rw [ho] at hj; cases hj
            rw [hd, eval_sameF (by rw [hI.size]; exact hdst _ _ _ ho hd)]
            exact hGi
          · have hji : j ≠ i := fun e => by rw [e, hunF] at hl2; cases hl2
            have := hkeep _ _ _ _ hI.but (hI.done j oj s hj hl2 hd) hb
            cases hod : o.dst with
            | none => exact this
            | some d =>
              rw [eval_putF (fun e => by subst e; exact flow_onceG hsh ho hj hd hji hod)]
              exact this
        · intro s hfr
          have hso : o.dst ≠ some s := fun e => by
            have := hfr i o ho e
            rw [(getD_setF hil).2 (.inl rfl)] at this; cases this
          have h2 := hI.free s (fun j oj hj hd => by
            cases hl : listed.getD j false with
            | false => rfl
            | true => have := hfr j oj hj hd; rw [(getD_setF hil).2 (.inr hl)] at this; cases this)
          rw [← h2]
          cases hod : o.dst with
          | none => rfl
          | some d =>
            have : d ≠ s := fun e => hso (by rw [hod, e])
            simp [Act.put, Array.getElem?_setIfInBounds_ne this]
      · have hiem : i = m := by
          by_cases h : i = m
          · exact h
          · have h1 := waits_one (hpre i (by omega) (by omega)) hall'
            rw [hhi (i - 1) (by omega)] at h1
            cases h1
        subst hiem
        have hlist : ∀ d j, j < i → i - j ≤ d → listed.getD j false = true := by
          intro d
          induction d with
          | zero => intro j h1 h2; omega
          | succ d ih =>
            intro j h1 h2
            obtain ⟨j', h3, h4, h5⟩ := hsuc j h1
            by_cases h6 : j' = i
            · subst h6; exact waits_one h5 hall'
            · exact waits_one h5 (fun o' ho' => hI.closed j' o' ho' (ih j' (by omega) (by omega)))
        have hfr : (⟨frameF (l.take i) a0.tmps (fun s => a.eval (.tmp s)), a0.defers⟩ : Act) = a := frame_eqF hI.defers hI.size (fun s hs' => hI.free s (fun j oj hj hd => by
          by_cases hji : j < i
          · exact absurd hd (hs' j oj hji ((hlo j oj).1 hj))
          · exact hhi j (by omega)))
        have hfin := hend (fun s => a.eval (.tmp s)) w hI.but (fun j oj s hji hj hd => hI.done j oj s ((hlo j oj).2 hj) (hlist i j hji (by omega)) hd)
        rw [hfr, ← wpOps_eq_wpList (l.drop i) i (fun j => by simp)] at hfin
        rw [List.length_drop, show l.length - i = (l.length - (i + 1)) + 1 by omega, List.range'_succ, wpOps_cons] at hfin
        refine wpOp_mono (fun a' w' h' => .inr ⟨i + 1, by omega, by omega, fun j => ?_, by rw [hsz]; exact h'⟩) hfin
        rw [getD_setF hil]
        constructor
        · rintro (rfl | h)
          · omega
          · by_cases hji : j < i
            · omega
            · rw [hhi j (by omega)] at h; cases h
        · intro h
          by_cases hji : j = i
          · exact .inl hji
          · exact .inr (hlist i j (by omega) (by omega))
    · have hiek : i = k := by
        have h0 : ¬ i < k := fun h => by have := (hk3 i).2 h; rw [hunF] at this; cases this
        by_cases h : i = k
        · exact h
        · have h1 := waits_one (hpre i (by omega) (by omega)) hall'
          have := (hk3 (i - 1)).1 h1
          omega
      subst hiek
      rw [show l.toArray.size - i = (l.toArray.size - (i + 1)) + 1 by omega, List.range'_succ, wpOps_cons] at hk4
      refine wpOp_mono (fun a' w' h' => .inr ⟨i + 1, by omega, by omega, fun j => ?_, h'⟩) hk4
      rw [getD_setF hil, hk3]
      omega
  · intro listed a w hs hI hr
    have hall : ∀ i, i < l.toArray.size → listed.getD i false = true := by
      intro i
      induction i using Nat.strongRecOn with
      | ind i ih =>
        intro hi
        cases hl : listed.getD i false with
        | true => rfl
        | false =>
          exfalso
          have hmem : i ∈ Region.ready .any l.toArray listed := by
            refine mem_ready.2 ⟨?_, l.toArray[i], Array.getElem?_eq_getElem hi, fun e he hb => ?_⟩
            · have hlt : i < listed.size := by omega
              rw [Array.getD_eq_getD_getElem?, Array.getElem?_eq_getElem hlt] at hl ⊢
              simpa using hl
            · have := flow_lexG hsh (Array.getElem?_eq_getElem hi) e he hb
              exact ih e.on this (by omega)
          rw [hr] at hmem
          cases hmem
    rcases hI with ⟨hhi, _⟩ | ⟨k, hk1, hk2, hk3, hk4⟩
    · have h1 := hall m (by omega)
      rw [hhi m (Nat.le_refl _)] at h1
      cases h1
    · have hke : k = l.toArray.size := by
        by_cases h : k < l.toArray.size
        · have := (hk3 k).1 (hall k h); omega
        · omega
      rw [hke, Nat.sub_self] at hk4
      exact hk4
  · refine .inl ⟨fun i _ => ?_, hdraw, rfl, rfl, ?_, ?_, fun s _ => rfl⟩
    · by_cases h : i < l.toArray.size
      · have h' : i < l.length := by omega
        simp [Array.getD, h']
      · exact getD_out (by simpa using h)
    · intro j oj hj hl
      have hj' := (Array.getElem?_eq_some_iff.1 hj).1
      have hj2 : j < l.length := by omega
      simp [hj2] at hl
    · intro j oj s hj hl
      have hj' := (Array.getElem?_eq_some_iff.1 hj).1
      have hj2 : j < l.length := by omega
      simp [hj2] at hl
/-- The frame behind the region, by a list that tells which places were written (cheap for the kernel). -/
def frameP : List (Option Tmp) → List Value → (Tmp → Value) → List Value
  | [], _, _ => []
  | _ :: _, [], _ => []
  | none :: ps, v :: t, f => v :: frameP ps t f
  | some s :: ps, _ :: t, f => f s :: frameP ps t f
def patB (l : List Oper) : Nat → List (Option Tmp) → Bool
  | _, [] => true
  | k, none :: ps => !hasF l k && patB l (k + 1) ps
  | k, some s :: ps => hasF l k && Nat.beq s k && patB l (k + 1) ps
theorem frameL_pat {l : List Oper} {f : Tmp → Value} : ∀ {pat : List (Option Tmp)} {t : List Value} {k : Nat}, patB l k pat = true → pat.length = t.length → frameL l f k t = frameP pat t f
  | [], [], _, _, _ => rfl
  | [], _ :: _, _, _, h => by cases h
  | _ :: _, [], _, _, h => by cases h
  | none :: ps, v :: t, k, h, hl => by
    simp only [patB, Bool.and_eq_true, Bool.not_eq_true'] at h
    unfold frameL frameP
    rw [frameL_pat h.2 (by simpa using hl)]
    simp [h.1]
  | some s :: ps, v :: t, k, h, hl => by
    simp only [patB, Bool.and_eq_true] at h
    unfold frameL frameP
    rw [frameL_pat h.2 (by simpa using hl), Nat.eq_of_beq_eq_true h.1.2]
    simp [h.1.1]
theorem frameF_pat {l : List Oper} {t : Array Value} {f : Tmp → Value} {pat : List (Option Tmp)} (h : patB l 0 pat = true) (hl : pat.length = t.toList.length) : frameF l t f = (frameP pat t.toList f).toArray := by
  unfold frameF
  rw [frameL_pat h hl]
theorem wp_region_flowS {id : Nat} {l : List Oper} {a0 : Act} {w0 : World} (m : Nat) (hml : m < l.length) (hm : P.follows .mixedOrders = true) (R : World → World → Prop) (htrans : ∀ a b c, R a b → R b c → R a c) (hdraw : R w0 { w0 with drawn := w0.drawn + 1 })
    (G : Nat → Value → World → Prop) (deps : List (List (Nat × Tmp))) (frees : List (List (Tmp × Value))) (hsh : flowBG l.toArray = true) (htl : tailB l.toArray m = true) (hkn : knowB l.toArray deps (frees.map (·.map (·.1))) = true)
    (hdst : (l.toArray.all fun o => match o.dst with | none => true | some s => decide (s < a0.tmps.size)) = true)
    (hfreeA : FreeA a0 frees)
    (hkeep : ∀ i v w w', R w0 w → G i v w → R w w' → G i v w')
    (pat : List (Option Tmp)) (hpat : patB (l.take m) 0 pat = true) (hplen : pat.length = a0.tmps.toList.length)
    (hops : FlowLG P l.toArray Q R G w0 0 (l.take m) deps frees)
    (hend : ∀ (f : Tmp → Value) (w : World), R w0 w → (∀ (i : Nat) (o : Oper) (s : Tmp), i < m → l[i]? = some o → o.dst = some s → G i (f s) w) → wpList P l.toArray Q (l.drop m) ⟨(frameP pat a0.tmps.toList f).toArray, a0.defers⟩ w) :
    (Code.region id l.toArray true).wp P Q a0 w0 := 
  wp_region_flowG m hml hm R htrans hdraw G deps frees hsh htl hkn hdst hfreeA hkeep hops (fun f w h1 h2 => by rw [frameF_pat hpat hplen]; exact hend f w h1 h2)
/-- What comes behind, under one name: a region's own steps do not carry it. -/
theorem wp_far {c : Code} {a : Act} {w : World} (h : ∀ D : Act → World → Prop, (∀ a w, Q .normal a w → D a w) → c.wp P (Exit.then D (fun _ _ _ => False)) a w) : c.wp P Q a w :=
  Code.wp_mono (fun e a w h => by cases e <;> first | exact h | exact h.elim) (h (fun a w => Q .normal a w) (fun _ _ h => h))
/-- All values are known. -/
def GV (vals : List Value) (i : Nat) (v : Value) (_ : World) : Prop := ∀ u, vals[i]? = some u → v = u
theorem GV.of {vals : List Value} {i : Nat} {v : Value} {w : World} (h : vals[i]? = some v) : GV vals i v w := fun u hu => by rw [h] at hu; cases hu; rfl
theorem GV.ev {vals : List Value} {i s : Nat} {a : Act} {w : World} {v : Value} (h : GV vals i (a.eval (.tmp s)) w) (hv : vals[i]? = some v) : a.tmps[s]?.getD undef = v := by
  rw [← h v hv]; simp [Act.eval]
theorem GV.eval {vals : List Value} {i s : Nat} {a : Act} {w : World} {v : Value} (h : GV vals i (a.eval (.tmp s)) w) (hv : vals[i]? = some v) : a.eval (.tmp s) = v := h v hv
theorem freeF_ev {s : Nat} {a : Act} {v : Value} (h : a.eval (.tmp s) = v) : a.tmps[s]?.getD undef = v := by rw [← h]; simp [Act.eval]
theorem wanted_at {o : Oper} {a : Act} {j : Nat} {b b' : Bool} {s : Tmp} (hg : o.guard = some (j, b)) (hd : (ops[j]?).bind (·.dst) = some s) (ht : a.eval (.tmp s) = .bool b') : Region.wanted o (yielded ops a.tmps) = (b' == b) := by
  have h : a.tmps[s]? = some (.bool b') := by
    simp only [Act.eval, Array.getD_eq_getD_getElem?] at ht
    cases h : a.tmps[s]? with
    | none => rw [h] at ht; cases ht
    | some v => rw [h] at ht; simp only [Option.getD_some] at ht; rw [ht]
  unfold Region.wanted yielded
  rw [hg]
  dsimp only
  rw [hd]
  simp only [Option.bind_some, h]
  cases b' <;> cases b <;> rfl
/-- A guarded operation that is wanted. -/
theorem flow_on {R : World → World → Prop} {G : Nat → Value → World → Prop} {i : Nat} {o : Oper} {a : Act} {w : World} (hw : Region.wanted o (yielded ops a.tmps) = true)
    (h : o.wp P a w (fun a' w' => R w w' ∧ ∃ v, a' = a.put o.dst v ∧ G i v w') Q) :
    if Region.wanted o (yielded ops a.tmps) = true then o.wp P a w (fun a' w' => R w w' ∧ ∃ v, a' = a.put o.dst v ∧ G i v w') Q else R w w ∧ ∃ v, a.put o.dst undef = a.put o.dst v ∧ G i v w := by
  rw [if_pos hw]; exact h
/-- One that is not. -/
theorem flow_off {R : World → World → Prop} {G : Nat → Value → World → Prop} {i : Nat} {o : Oper} {a : Act} {w : World} (hw : Region.wanted o (yielded ops a.tmps) = false) (hR : R w w) (hG : G i undef w) :
    if Region.wanted o (yielded ops a.tmps) = true then o.wp P a w (fun a' w' => R w w' ∧ ∃ v, a' = a.put o.dst v ∧ G i v w') Q else R w w ∧ ∃ v, a.put o.dst undef = a.put o.dst v ∧ G i v w := by
  rw [if_neg (by rw [hw]; decide)]; exact ⟨hR, _, rfl, hG⟩
end
end Go.Proofs.Ytlhegejfaihgmaa.M
