/-
  XFlow within a round of a range over a function. No program.
-/
import Derived.Test.YtpoinhfkgnkedaaFlow
import Derived.OrdersIn
import Derived.TacticsIn
namespace Go.Proofs.Ytpoinhfkgnkedaa.M
open Go.RowKit
set_option linter.unusedVariables false
set_option linter.unusedSectionVars false
set_option linter.unusedSimpArgs false
section
variable {P : Program} {ops : Array Oper} {Q : Exit → Act → World → Prop}
theorem calls_round {l n : Nat} {f : FuncId} {args : Array Value} {w : World} {R : Ending → World → Prop} (h : Calls P f args w R) : CallsIn (Fence.wide.inRound l) n P f args w R :=
  show CallsIn Fence.wide n P f args w R from callsIn_wide.2 h
theorem rows_round {l n : Nat} {row : String} {args : Array Value} {w : World} {R : Value → World → Prop} (h : Rows P row args w R) : RowsIn (Fence.wide.inRound l) n P row args w R := fun c cs _ => by
  obtain ⟨v, w', r, s⟩ := h c cs
  exact ⟨v, w', r, stepsIn_wide.2 s⟩
theorem oper_in {l n : Nat} {o : Oper} (ho : ∀ c, o.op ≠ .defer c) {a : Act} {w : World} {K : Act → World → Prop} (h : o.wp P a w K Q) : o.wpIn (Fence.wide.inRound l) n P a w K Q := by
  refine ⟨fun _ _ => trivial, ?_⟩
  rw [Oper.semAt_eq _ _ _ ho]
  unfold Oper.wp at h
  generalize (execOp a.eval o).run P w = r at *
  cases r with
  | ok x w' =>
    cases x with
    | value v => exact h
    | skip => exact h
    | defer d => exact h
    | enter f args => exact ⟨fun hd => by simp [Fence.wide] at hd, calls_round h⟩
    | row row args => exact ⟨fun hd => by simp [Fence.wide] at hd, rows_round h⟩
    | _ => first | exact h.elim | exact h
  | halt x w' => cases x <;> first | exact h | exact h.elim
/-- For the kernel: no operation defers. -/
def NoDeferB : List Oper → Bool
  | [] => true
  | o :: r => (match o.op with | .defer _ => false | _ => true) && NoDeferB r
theorem noDefer : ∀ {l : List Oper}, NoDeferB l = true → ∀ {i : Nat} {o : Oper}, l[i]? = some o → ∀ c, o.op ≠ .defer c
  | [], _, i, o, ho, c => by simp at ho
  | x :: r, h, 0, o, ho, c => by
    simp only [List.getElem?_cons_zero, Option.some.injEq] at ho
    subst ho
    intro e
    simp [NoDeferB, e] at h
  | x :: r, h, i + 1, o, ho, c => by
    simp only [NoDeferB, Bool.and_eq_true] at h
    exact noDefer h.2 (by simpa using ho) c
theorem wpOpsIn_eqF {F : Fence} {n : Nat} (l : List Oper) : ∀ k, (∀ j, l[j]? = ops[k + j]?) → wpOpsIn F n P ops Q (List.range' k l.length) = wpListIn F n P ops Q l := by
  induction l with
  | nil => intro k _; funext a w; simp [wpOpsIn, wpListIn]
  | cons o l ih =>
    intro k h
    have h0 : ops[k]? = some o := by simpa using (h 0).symm
    have h1 := ih (k + 1) (fun j => by have := h (j + 1); simp only [List.getElem?_cons_succ] at this; rw [this]; congr 1; omega)
    funext a w
    rw [List.length_cons, List.range'_succ]
    simp only [wpOpsIn, wpListIn, h0, h1]
/-- An invariant that every operation keeps, in whatever order. -/
theorem wpAnyIn_invF {F : Fence} {n : Nat} (Inv : Array Bool → Act → World → Prop)
    (hstep : ∀ (listed : Array Bool) (a : Act) (w : World) (i : Nat), listed.size = ops.size → Inv listed a w → i ∈ Region.ready .any ops listed →
      wpOpIn F n P ops Q i (Inv (listed.setIfInBounds i true)) a w)
    (hend : ∀ (listed : Array Bool) (a : Act) (w : World), listed.size = ops.size → Inv listed a w → Region.ready .any ops listed = [] → Q .normal a w) :
    ∀ (fuel : Nat) (listed : Array Bool) (a : Act) (w : World), listed.size = ops.size → listed.toList.count false ≤ fuel → Inv listed a w →
      wpAnyIn F n P .any ops Q fuel listed a w := by
  intro fuel
  induction fuel with
  | zero =>
    intro listed a w hs hc hI
    have hr := ready_noneF hs (Nat.le_zero.1 hc)
    exact ⟨hr, hend listed a w hs hI hr⟩
  | succ fuel ih =>
    intro listed a w hs hc hI
    refine ⟨fun hr => hend listed a w hs hI hr, fun i hi => ?_⟩
    refine wpOpIn_mono (fun a' w' hI' => ih _ a' w' (by simpa using hs) ?_ hI') (hstep listed a w i hs hI hi)
    obtain ⟨h0, o, ho, _⟩ := mem_ready.1 hi
    have hlt : i < listed.size := by rw [hs]; exact (Array.getElem?_eq_some_iff.1 ho).1
    have hf : listed.toList[i]? = some false := by
      rw [Array.getD_eq_getD_getElem?, Array.getElem?_eq_getElem hlt] at h0
      simp only [Option.getD_some] at h0
      rw [List.getElem?_eq_getElem (by simpa using hlt)]
      simpa using h0
    have := count_setF hf
    simp only [Array.toList_setIfInBounds]
    omega
def InvTIn (F : Fence) (n : Nat) (P : Program) (ops : Array Oper) (Q : Exit → Act → World → Prop) (R : World → World → Prop) (G : Nat → Value → World → Prop) (w0 : World) (a0 : Act) (m : Nat) (listed : Array Bool) (a : Act) (w : World) : Prop :=
  ((∀ i, m ≤ i → listed.getD i false = false) ∧ InvF ops R G w0 a0 listed a w) ∨ ∃ k, m < k ∧ k ≤ ops.size ∧ (∀ i, listed.getD i false = true ↔ i < k) ∧ wpOpsIn F n P ops Q (List.range' k (ops.size - k)) a w
theorem wpIn_region_flow {lp n : Nat} {id : Nat} {l : List Oper} {a0 : Act} {w0 : World} (hnd : NoDeferB l = true) (m : Nat) (hml : m < l.length) (hm : P.follows .mixedOrders = true) (R : World → World → Prop) (htrans : ∀ a b c, R a b → R b c → R a c) (hdraw : R w0 { w0 with drawn := w0.drawn + 1 })
    (G : Nat → Value → World → Prop) (deps : List (List (Nat × Tmp))) (frees : List (List (Tmp × Value))) (hsh : flowB l.toArray = true) (htl : tailB l.toArray m = true) (hkn : knowB l.toArray deps (frees.map (·.map (·.1))) = true)
    (hdst : (l.toArray.all fun o => match o.dst with | none => true | some s => decide (s < a0.tmps.size)) = true)
    (hfreeA : FreeA a0 frees)
    (hkeep : ∀ i v w w', R w0 w → G i v w → R w w' → G i v w')
    (hops : FlowL P Q R G w0 0 (l.take m) deps frees)
    (hend : ∀ (f : Tmp → Value) (w : World), R w0 w → (∀ (i : Nat) (o : Oper) (s : Tmp), i < m → l[i]? = some o → o.dst = some s → G i (f s) w) → wpListIn (Fence.wide.inRound lp) n P l.toArray Q (l.drop m) ⟨frameF (l.take m) a0.tmps f, a0.defers⟩ w) :
    (Code.region id l.toArray true).wpIn (Fence.wide.inRound lp) n P Q a0 w0 := by
  have hsz : l.toArray.size = l.length := by simp
  have hfree := freeA_at hfreeA
  replace hdst : ∀ (i : Nat) (o : Oper) (s : Tmp), l.toArray[i]? = some o → o.dst = some s → s < a0.tmps.size := fun i o s ho hd => by
    have := Array.all_eq_true_iff_forall_mem.1 hdst o (Array.mem_of_getElem? ho)
    simpa [hd] using this
  have hlo : ∀ (i : Nat) (o : Oper), l.toArray[i]? = some o ↔ l[i]? = some o := fun i o => by simp
  simp only [tailB, Bool.and_eq_true] at htl
  have hsuc : ∀ i, i < m → ∃ j, i < j ∧ j ≤ m ∧ waitsB l.toArray 1 j i = true := fun i hi => by
    have h1 := List.all_eq_true.1 htl.1 i (by simpa using hi)
    obtain ⟨j, hj, h2⟩ := List.any_eq_true.1 h1
    simp only [Bool.and_eq_true, decide_eq_true_eq] at h2
    have hj' : j < m + 1 := by simpa using hj
    exact ⟨j, h2.1, by omega, h2.2⟩
  have hpre : ∀ i, m < i → i < l.length → waitsB l.toArray 1 i (i - 1) = true := fun i h1 h2 => by
    have h3 := List.all_eq_true.1 htl.2 i (by simpa using h2)
    simp only [Bool.or_eq_true, decide_eq_true_eq] at h3
    exact h3.resolve_left (by omega)
  refine wpIn_region_any hm ?_
  refine wpAnyIn_invF (InvTIn (Fence.wide.inRound lp) n P l.toArray Q R G w0 a0 m) ?_ ?_ _ _ _ _ (by simp) (by simp) ?_
  · intro listed a w i hs hI hi
    obtain ⟨hun, o, ho, hall⟩ := mem_ready.1 hi
    have hio := (Array.getElem?_eq_some_iff.1 ho).1
    have hil : i < listed.size := by omega
    have hunF : listed.getD i false = false := by
      rw [Array.getD_eq_getD_getElem?, Array.getElem?_eq_getElem hil] at hun ⊢
      simpa using hun
    have hall' : ∀ o', l.toArray[i]? = some o' → ∀ e ∈ o'.after, Region.binds .any e = true → listed.getD e.on false = true := fun o' ho' => by rw [ho] at ho'; cases ho'; exact hall
    rcases hI with ⟨hhi, hI⟩ | ⟨k, hk1, hk2, hk3, hk4⟩
    · by_cases him : i < m
      · have hg := flow_guard hsh ho
        obtain ⟨dd, ff, hdd, hff, h1⟩ := flowL_at hops i o (by rw [List.getElem?_take, if_pos him]; simpa using ho)
        simp only [knowB, Bool.and_eq_true] at hkn
        rw [Nat.zero_add] at h1
        replace h1 := h1 a w hI.but
          (knowF_of fun p hp => by
            have hm : (dd, i) ∈ deps.zipIdx := by
              rw [List.mem_zipIdx_iff_getElem?]
              simpa using hdd
            have h2 := List.all_eq_true.1 (List.all_eq_true.1 hkn.1 _ hm) p hp
            simp only [Bool.and_eq_true, beq_iff_eq] at h2
            obtain ⟨oj, hj, hd⟩ := Option.bind_eq_some_iff.1 h2.2
            exact hI.done p.1 oj p.2 hj (waits_listed hI.closed 2 i p.1 hall' h2.1) hd)
          (freeF_of fun p hp => by
            have hmf : (ff.map (·.1), i) ∈ (frees.map (·.map (·.1))).zipIdx := by
              rw [List.mem_zipIdx_iff_getElem?]
              simp [hff]
            have hfr := List.all_eq_true.1 (List.all_eq_true.1 hkn.2 _ hmf) p.1 (List.mem_map.2 ⟨p, hp, rfl⟩)
            have := hI.free p.1 (fun j oj hj hd => by
              cases hl : listed.getD j false with
              | false => rfl
              | true =>
                exfalso
                have hm : (oj, j) ∈ l.toArray.toList.zipIdx := by
                  rw [List.mem_zipIdx_iff_getElem?]
                  simpa using hj
                have h2 := List.all_eq_true.1 hfr _ hm
                simp only [hd, bne_self_eq_false, Bool.false_or, Bool.or_eq_true, beq_iff_eq] at h2
                rcases h2 with rfl | h2
                · rw [hunF] at hl; cases hl
                · have := waits_listed hI.closed 3 j i (fun o' ho' => hI.closed j o' ho' hl) h2
                  rw [hunF] at this; cases this)
            rw [← hfree ff (List.mem_of_getElem? hff) p hp]
            simp only [Act.eval, Array.getD_eq_getD_getElem?]
            rw [this])
        unfold wpOpIn
        simp only [ho]
        rw [if_pos (by simp [Region.wanted, hg])]
        refine oper_in (noDefer hnd (by simpa using ho)) (Oper.wp_mono ?_ h1)
        rintro a' w' ⟨hb, v, rfl, hGi⟩
        refine .inl ⟨fun j hj => ?_, htrans _ _ _ hI.but hb, ?_, ?_, ?_, ?_, ?_⟩
        · rw [getD_set_ne false (by omega)]
          exact hhi j hj
        · cases o.dst <;> exact hI.defers
        · cases o.dst
          · exact hI.size
          · simpa [Act.put] using hI.size
        · intro j oj hj hl e he hbi
          rw [getD_setF hil]
          rcases (getD_setF hil).1 hl with rfl | hl
          · rw [ho] at hj; cases hj; exact .inr (hall e he hbi)
          · exact .inr (hI.closed j oj hj hl e he hbi)
        · intro j oj s hj hl hd
          rcases (getD_setF hil).1 hl with rfl | hl2
          · rw [ho] at hj; cases hj
            rw [hd, eval_sameF (by rw [hI.size]; exact hdst _ _ _ ho hd)]
            exact hGi
          · have hji : j ≠ i := fun e => by rw [e, hunF] at hl2; cases hl2
            have := hkeep _ _ _ _ hI.but (hI.done j oj s hj hl2 hd) hb
            cases hod : o.dst with
            | none => exact this
            | some d =>
              rw [eval_putF (fun e => by subst e; exact flow_once hsh ho hj hd hji hod)]
              exact this
        · intro s hfr
          have hso : o.dst ≠ some s := fun e => by
            have := hfr i o ho e
            rw [(getD_setF hil).2 (.inl rfl)] at this; cases this
          have h2 := hI.free s (fun j oj hj hd => by
            cases hl : listed.getD j false with
            | false => rfl
            | true => have := hfr j oj hj hd; rw [(getD_setF hil).2 (.inr hl)] at this; cases this)
          rw [← h2]
          cases hod : o.dst with
          | none => rfl
          | some d =>
            have : d ≠ s := fun e => hso (by rw [hod, e])
            simp [Act.put, Array.getElem?_setIfInBounds_ne this]
      · have hiem : i = m := by
          by_cases h : i = m
          · exact h
          · have h1 := waits_one (hpre i (by omega) (by omega)) hall'
            rw [hhi (i - 1) (by omega)] at h1
            cases h1
        subst hiem
        have hlist : ∀ d j, j < i → i - j ≤ d → listed.getD j false = true := by
          intro d
          induction d with
          | zero => intro j h1 h2; omega
          | succ d ih =>
            intro j h1 h2
            obtain ⟨j', h3, h4, h5⟩ := hsuc j h1
            by_cases h6 : j' = i
            · subst h6; exact waits_one h5 hall'
            · exact waits_one h5 (fun o' ho' => hI.closed j' o' ho' (ih j' (by omega) (by omega)))
        have hfr : (⟨frameF (l.take i) a0.tmps (fun s => a.eval (.tmp s)), a0.defers⟩ : Act) = a := frame_eqF hI.defers hI.size (fun s hs' => hI.free s (fun j oj hj hd => by
          by_cases hji : j < i
          · exact absurd hd (hs' j oj hji ((hlo j oj).1 hj))
          · exact hhi j (by omega)))
        have hfin := hend (fun s => a.eval (.tmp s)) w hI.but (fun j oj s hji hj hd => hI.done j oj s ((hlo j oj).2 hj) (hlist i j hji (by omega)) hd)
        rw [hfr, ← wpOpsIn_eqF (l.drop i) i (fun j => by simp)] at hfin
        rw [List.length_drop, show l.length - i = (l.length - (i + 1)) + 1 by omega, List.range'_succ, wpOpsIn_cons] at hfin
        refine wpOpIn_mono (fun a' w' h' => .inr ⟨i + 1, by omega, by omega, fun j => ?_, by rw [hsz]; exact h'⟩) hfin
        rw [getD_setF hil]
        constructor
        · rintro (rfl | h)
          · omega
          · by_cases hji : j < i
            · omega
            · rw [hhi j (by omega)] at h; cases h
        · intro h
          by_cases hji : j = i
          · exact .inl hji
          · exact .inr (hlist i j (by omega) (by omega))
    · have hiek : i = k := by
        have h0 : ¬ i < k := fun h => by have := (hk3 i).2 h; rw [hunF] at this; cases this
        by_cases h : i = k
        · exact h
        · have h1 := waits_one (hpre i (by omega) (by omega)) hall'
          have := (hk3 (i - 1)).1 h1
          omega
      subst hiek
      rw [show l.toArray.size - i = (l.toArray.size - (i + 1)) + 1 by omega, List.range'_succ, wpOpsIn_cons] at hk4
      refine wpOpIn_mono (fun a' w' h' => .inr ⟨i + 1, by omega, by omega, fun j => ?_, h'⟩) hk4
      rw [getD_setF hil, hk3]
      omega
  · intro listed a w hs hI hr
    have hall : ∀ i, i < l.toArray.size → listed.getD i false = true := by
      intro i
      induction i using Nat.strongRecOn with
      | ind i ih =>
        intro hi
        cases hl : listed.getD i false with
        | true => rfl
        | false =>
          exfalso
          have hmem : i ∈ Region.ready .any l.toArray listed := by
            refine mem_ready.2 ⟨?_, l.toArray[i], Array.getElem?_eq_getElem hi, fun e he hb => ?_⟩
            · have hlt : i < listed.size := by omega
              rw [Array.getD_eq_getD_getElem?, Array.getElem?_eq_getElem hlt] at hl ⊢
              simpa using hl
            · have := flow_lex hsh (Array.getElem?_eq_getElem hi) e he hb
              exact ih e.on this (by omega)
          rw [hr] at hmem
          cases hmem
    rcases hI with ⟨hhi, _⟩ | ⟨k, hk1, hk2, hk3, hk4⟩
    · have h1 := hall m (by omega)
      rw [hhi m (Nat.le_refl _)] at h1
      cases h1
    · have hke : k = l.toArray.size := by
        by_cases h : k < l.toArray.size
        · have := (hk3 k).1 (hall k h); omega
        · omega
      rw [hke, Nat.sub_self] at hk4
      exact hk4
  · refine .inl ⟨fun i _ => ?_, hdraw, rfl, rfl, ?_, ?_, fun s _ => rfl⟩
    · by_cases h : i < l.toArray.size
      · have h' : i < l.length := by omega
        simp [Array.getD, h']
      · exact getD_out (by simpa using h)
    · intro j oj hj hl
      have hj' := (Array.getElem?_eq_some_iff.1 hj).1
      have hj2 : j < l.length := by omega
      simp [hj2] at hl
    · intro j oj s hj hl
      have hj' := (Array.getElem?_eq_some_iff.1 hj).1
      have hj2 : j < l.length := by omega
      simp [hj2] at hl
end
end Go.Proofs.Ytpoinhfkgnkedaa.M
