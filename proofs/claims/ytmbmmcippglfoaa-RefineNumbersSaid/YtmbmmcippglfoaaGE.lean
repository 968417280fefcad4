/-
  Merged: Flow, FlowIn, FlowL, FlowG, FlowP.
-/
import Derived.Test.YtmbmmcippglfoaaHeap
import Derived.Orders
import Derived.Tactics
import Derived.KernelRfl
import Derived.OrdersIn
import Derived.TacticsIn
import Derived.Test.YtmbmmcippglfoaaGA
namespace Go.Proofs.Ytmbmmcippglfoaa.M
open Go.RowKit
set_option linter.unusedVariables false
set_option linter.unusedSectionVars false
set_option linter.unusedSimpArgs false
section
variable {P : Program} {ops : Array Oper} {Q : Exit → Act → World → Prop}
theorem count_setF {l : List Bool} {i : Nat} (h : l[i]? = some false) : (l.set i true).count false + 1 = l.count false := by
  induction l generalizing i with
  | nil => simp at h
  | cons x r ih =>
    cases i with
    | zero =>
      simp only [List.getElem?_cons_zero, Option.some.injEq] at h
      subst h
      simp
    | succ i =>
      simp only [List.getElem?_cons_succ] at h
      have := ih h
      simp only [List.set_cons_succ, List.count_cons]
      omega
theorem ready_noneF {listed : Array Bool} (hs : listed.size = ops.size) (hc : listed.toList.count false = 0) : Region.ready .any ops listed = [] := by
  rw [List.eq_nil_iff_forall_not_mem]
  intro i hi
  obtain ⟨h0, o, ho, _⟩ := mem_ready.1 hi
  have hlt : i < listed.size := by rw [hs]; exact (Array.getElem?_eq_some_iff.1 ho).1
  have hm : false ∈ listed.toList := by
    rw [Array.getD_eq_getD_getElem?, Array.getElem?_eq_getElem hlt] at h0
    simp only [Option.getD_some] at h0
    rw [← h0]
    simp
  have := List.count_pos_iff.2 hm
  omega
/-- An invariant that every operation keeps, in whatever order. -/
theorem wpAny_invF (Inv : Array Bool → Act → World → Prop)
    (hstep : ∀ (listed : Array Bool) (a : Act) (w : World) (i : Nat), listed.size = ops.size → Inv listed a w → i ∈ Region.ready .any ops listed →
      wpOp P ops Q i (Inv (listed.setIfInBounds i true)) a w)
    (hend : ∀ (listed : Array Bool) (a : Act) (w : World), listed.size = ops.size → Inv listed a w → Region.ready .any ops listed = [] → Q .normal a w) :
    ∀ (fuel : Nat) (listed : Array Bool) (a : Act) (w : World), listed.size = ops.size → listed.toList.count false ≤ fuel → Inv listed a w →
      wpAny P .any ops Q fuel listed a w := by
  intro fuel
  induction fuel with
  | zero =>
    intro listed a w hs hc hI
    have hr := ready_noneF hs (Nat.le_zero.1 hc)
    exact ⟨hr, hend listed a w hs hI hr⟩
  | succ fuel ih =>
    intro listed a w hs hc hI
    refine ⟨fun hr => hend listed a w hs hI hr, fun i hi => ?_⟩
    refine wpOp_mono (fun a' w' hI' => ih _ a' w' (by simpa using hs) ?_ hI') (hstep listed a w i hs hI hi)
    obtain ⟨h0, o, ho, _⟩ := mem_ready.1 hi
    have hlt : i < listed.size := by rw [hs]; exact (Array.getElem?_eq_some_iff.1 ho).1
    have hf : listed.toList[i]? = some false := by
      rw [Array.getD_eq_getD_getElem?, Array.getElem?_eq_getElem hlt] at h0
      simp only [Option.getD_some] at h0
      rw [List.getElem?_eq_getElem (by simpa using hlt)]
      simpa using h0
    have := count_setF hf
    simp only [Array.toList_setIfInBounds]
    omega
/-- Does an operation wait on another, by at most so many edges? -/
def waitsB (ops : Array Oper) : Nat → Nat → Nat → Bool
  | 0, _, _ => false
  | n + 1, i, j => match ops[i]? with
    | none => false
    | some o => o.after.any fun e => Region.binds .any e && (e.on == j || waitsB ops n e.on j)
/-- For the kernel: no guard; each waits on earlier ones alone; no temporary is written twice. -/
def flowB (ops : Array Oper) : Bool :=
  (List.range ops.size).all fun i => match ops[i]? with
    | none => false
    | some o => o.guard.isNone && o.after.all (fun e => !Region.binds .any e || decide (e.on < i)) &&
      (List.range ops.size).all fun j => match ops[j]? with
        | none => false
        | some oj => match oj.dst with
          | none => true
          | some d => j == i || o.dst != some d
theorem flow_guard (h : flowB ops = true) {i : Nat} {o : Oper} (ho : ops[i]? = some o) : o.guard = none := by
  have hi := (Array.getElem?_eq_some_iff.1 ho).1
  have := List.all_eq_true.1 h i (by simpa using hi)
  simp only [ho, Bool.and_eq_true] at this
  simpa using this.1.1
theorem flow_lex (h : flowB ops = true) {i : Nat} {o : Oper} (ho : ops[i]? = some o) : ∀ e ∈ o.after, Region.binds .any e = true → e.on < i := by
  have hi := (Array.getElem?_eq_some_iff.1 ho).1
  have := List.all_eq_true.1 h i (by simpa using hi)
  simp only [ho, Bool.and_eq_true] at this
  intro e he hb
  have h2 := Array.all_eq_true_iff_forall_mem.1 this.1.2 e he
  simpa [hb] using h2
theorem flow_once (h : flowB ops = true) {i j : Nat} {o oj : Oper} (ho : ops[i]? = some o) (hoj : ops[j]? = some oj) {d : Tmp} (hd : oj.dst = some d) (hne : j ≠ i) : o.dst ≠ some d := by
  have hi := (Array.getElem?_eq_some_iff.1 ho).1
  have hj := (Array.getElem?_eq_some_iff.1 hoj).1
  have := List.all_eq_true.1 h i (by simpa using hi)
  simp only [ho, Bool.and_eq_true] at this
  have h2 := List.all_eq_true.1 this.2 j (by simpa using hj)
  simp only [hoj, hd, Bool.or_eq_true, beq_iff_eq, bne_iff_ne] at h2
  exact h2.resolve_left hne
/-- What has come up has what it waits on behind it. -/
def ClosedF (ops : Array Oper) (listed : Array Bool) : Prop := ∀ (j : Nat) (oj : Oper), ops[j]? = some oj → listed.getD j false = true → ∀ e ∈ oj.after, Region.binds .any e = true → listed.getD e.on false = true
theorem waits_listed {listed : Array Bool} (hc : ClosedF ops listed) : ∀ (n i j : Nat), (∀ o, ops[i]? = some o → ∀ e ∈ o.after, Region.binds .any e = true → listed.getD e.on false = true) → waitsB ops n i j = true → listed.getD j false = true := by
  intro n
  induction n with
  | zero => intro i j _ h; cases h
  | succ n ih =>
    intro i j hall h
    unfold waitsB at h
    cases ho : ops[i]? with
    | none => rw [ho] at h; cases h
    | some o =>
      rw [ho] at h
      obtain ⟨e, he, hb⟩ := Array.any_eq_true'.1 h
      simp only [Bool.and_eq_true, Bool.or_eq_true, beq_iff_eq] at hb
      obtain ⟨hb1, hb2 | hb2⟩ := hb
      · exact hb2 ▸ hall o ho e he hb1
      · exact ih e.on j (fun x hx => hc e.on x hx (hall o ho e he hb1)) hb2
/-- What is so wherever the region stands. -/
structure InvF (ops : Array Oper) (R : World → World → Prop) (G : Nat → Value → World → Prop) (w0 : World) (a0 : Act) (listed : Array Bool) (a : Act) (w : World) : Prop where
  but : R w0 w
  defers : a.defers = a0.defers
  size : a.tmps.size = a0.tmps.size
  closed : ClosedF ops listed
  done : ∀ (i : Nat) (o : Oper) (s : Tmp), ops[i]? = some o → listed.getD i false = true → o.dst = some s → G i (a.eval (.tmp s)) w
  free : ∀ s : Tmp, (∀ (i : Nat) (o : Oper), ops[i]? = some o → o.dst = some s → listed.getD i false = false) → a.tmps[s]? = a0.tmps[s]?
/-- The frame behind the region. -/
def hasF : List Oper → Tmp → Bool
  | [], _ => false
  | o :: r, s => match o.dst with
    | none => hasF r s
    | some d => Nat.beq d s || hasF r s
theorem hasF_iff : ∀ {l : List Oper} {s : Tmp}, hasF l s = true ↔ ∃ o ∈ l, o.dst = some s
  | [], s => by simp [hasF]
  | o :: r, s => by
    have ih := hasF_iff (l := r) (s := s)
    cases h : o.dst with
    | none => simp [hasF, h, ih]
    | some d => simp [hasF, h, ih, Nat.beq_eq_true_eq]
def frameL (l : List Oper) (f : Tmp → Value) : Nat → List Value → List Value
  | _, [] => []
  | s, v :: r => (match hasF l s with | true => f s | false => v) :: frameL l f (s + 1) r
theorem frameL_at {l : List Oper} {f : Tmp → Value} : ∀ {t : List Value} {k s : Nat}, (frameL l f k t)[s]? = (t[s]?).map fun v => if hasF l (k + s) then f (k + s) else v
  | [], k, s => by simp [frameL]
  | v :: r, k, 0 => by cases h : hasF l k <;> simp [frameL, h]
  | v :: r, k, s + 1 => by
    simp only [frameL, List.getElem?_cons_succ]
    rw [frameL_at, show k + 1 + s = k + (s + 1) by omega]
def frameF (l : List Oper) (t : Array Value) (f : Tmp → Value) : Array Value := (frameL l f 0 t.toList).toArray
theorem eval_putF {a : Act} {d s : Tmp} {v : Value} (h : d ≠ s) : (a.put (some d) v).eval (.tmp s) = a.eval (.tmp s) :=
  Act.eval_put (fun d' hd e => by cases hd; cases e; exact h rfl)
theorem eval_sameF {a : Act} {d : Tmp} {v : Value} (h : d < a.tmps.size) : (a.put (some d) v).eval (.tmp d) = v := by
  simp [Act.put, Act.eval, h]
theorem getD_setF {listed : Array Bool} {i j : Nat} (hi : i < listed.size) : (listed.setIfInBounds i true).getD j false = true ↔ j = i ∨ listed.getD j false = true := by
  by_cases h : j = i
  · subst h; simp [hi]
  · simp [h, getD_set_ne false (Ne.symm h)]
/-- What is known of temporaries: of those that the region writes, and of those that it does not. -/
def KnowF (G : Nat → Value → World → Prop) (a : Act) (w : World) : List (Nat × Tmp) → Prop
  | [] => True
  | p :: r => G p.1 (a.eval (.tmp p.2)) w ∧ KnowF G a w r
def FreeF (a : Act) : List (Tmp × Value) → Prop
  | [] => True
  | p :: r => a.eval (.tmp p.1) = p.2 ∧ FreeF a r
def FreeA (a : Act) : List (List (Tmp × Value)) → Prop
  | [] => True
  | f :: r => FreeF a f ∧ FreeA a r
theorem freeF_at {a : Act} : ∀ {f : List (Tmp × Value)}, FreeF a f → ∀ p ∈ f, a.eval (.tmp p.1) = p.2
  | [], _, p, hp => by cases hp
  | q :: r, h, p, hp => by
    rcases List.mem_cons.1 hp with rfl | hp
    · exact h.1
    · exact freeF_at h.2 p hp
theorem freeA_at {a : Act} : ∀ {fs : List (List (Tmp × Value))}, FreeA a fs → ∀ f ∈ fs, ∀ p ∈ f, a.eval (.tmp p.1) = p.2
  | [], _, f, hf => by cases hf
  | q :: r, h, f, hf => by
    rcases List.mem_cons.1 hf with rfl | hf
    · exact freeF_at h.1
    · exact freeA_at h.2 f hf
/-- What is to be shown of each operation. -/
def FlowL (P : Program) (Q : Exit → Act → World → Prop) (R : World → World → Prop) (G : Nat → Value → World → Prop) (w0 : World) : Nat → List Oper → List (List (Nat × Tmp)) → List (List (Tmp × Value)) → Prop
  | _, [], _, _ => True
  | i, o :: os, d :: ds, f :: fs => (∀ (a : Act) (w : World), R w0 w → KnowF G a w d → FreeF a f → o.wp P a w (fun a' w' => R w w' ∧ ∃ v, a' = a.put o.dst v ∧ G i v w') Q) ∧ FlowL P Q R G w0 (i + 1) os ds fs
  | _, _ :: _, _, _ => False
/-- For the kernel: each waits on those that it is said to know; nobody who writes a temporary that is free to an operation comes ahead of it. -/
def knowB (ops : Array Oper) (deps : List (List (Nat × Tmp))) (frees : List (List Tmp)) : Bool :=
  (deps.zipIdx.all fun (d, i) => d.all fun p => waitsB ops 2 i p.1 && (ops[p.1]?).bind (·.dst) == some p.2) &&
  (frees.zipIdx.all fun (f, i) => f.all fun s => ops.toList.zipIdx.all fun (oj, j) => oj.dst != some s || j == i || waitsB ops 3 j i)
theorem knowF_of {G : Nat → Value → World → Prop} {a : Act} {w : World} : ∀ {d : List (Nat × Tmp)}, (∀ p ∈ d, G p.1 (a.eval (.tmp p.2)) w) → KnowF G a w d
  | [], _ => trivial
  | p :: r, h => ⟨h p (by simp), knowF_of fun q hq => h q (by simp [hq])⟩
theorem freeF_of {a : Act} : ∀ {f : List (Tmp × Value)}, (∀ p ∈ f, a.eval (.tmp p.1) = p.2) → FreeF a f
  | [], _ => trivial
  | p :: r, h => ⟨h p (by simp), freeF_of fun q hq => h q (by simp [hq])⟩
theorem flowL_at {R : World → World → Prop} {G : Nat → Value → World → Prop} {w0 : World} : ∀ {os : List Oper} {ds : List (List (Nat × Tmp))} {fs : List (List (Tmp × Value))} {k : Nat}, FlowL P Q R G w0 k os ds fs → ∀ (i : Nat) (o : Oper), os[i]? = some o →
    ∃ d f, ds[i]? = some d ∧ fs[i]? = some f ∧ ∀ (a : Act) (w : World), R w0 w → KnowF G a w d → FreeF a f → o.wp P a w (fun a' w' => R w w' ∧ ∃ v, a' = a.put o.dst v ∧ G (k + i) v w') Q
  | [], _, _, _, _, i, o, ho => by simp at ho
  | x :: os, [], _, _, h, i, o, ho => by simp [FlowL] at h
  | x :: os, d :: ds, [], _, h, i, o, ho => by simp [FlowL] at h
  | x :: os, d :: ds, f :: fs, k, h, 0, o, ho => by
    simp only [List.getElem?_cons_zero, Option.some.injEq] at ho
    subst ho
    exact ⟨d, f, rfl, rfl, h.1⟩
  | x :: os, d :: ds, f :: fs, k, h, i + 1, o, ho => by
    simp only [List.getElem?_cons_succ] at ho
    obtain ⟨d', f', h1, h2, h3⟩ := flowL_at h.2 i o ho
    refine ⟨d', f', by simpa using h1, by simpa using h2, ?_⟩
    rw [show k + (i + 1) = k + 1 + i by omega]
    exact h3
/-- For the kernel: of the first m operations each has another one, at most number m, that waits on it; behind number m each waits on the one before. -/
def tailB (ops : Array Oper) (m : Nat) : Bool :=
  (List.range m).all (fun i => (List.range (m + 1)).any fun j => decide (i < j) && waitsB ops 1 j i) &&
  (List.range ops.size).all fun i => decide (i ≤ m) || waitsB ops 1 i (i - 1)
theorem waits_one {listed : Array Bool} {i j : Nat} (h : waitsB ops 1 i j = true) (hall : ∀ o, ops[i]? = some o → ∀ e ∈ o.after, Region.binds .any e = true → listed.getD e.on false = true) : listed.getD j false = true := by
  simp only [waitsB] at h
  cases ho : ops[i]? with
  | none => rw [ho] at h; cases h
  | some o =>
    rw [ho] at h
    obtain ⟨e, he, hb⟩ := Array.any_eq_true'.1 h
    simp only [Bool.and_eq_true, Bool.or_false, beq_iff_eq] at hb
    exact hb.2 ▸ hall o ho e he hb.1
theorem frame_eqF {a a0 : Act} {l : List Oper} {m : Nat} (hd : a.defers = a0.defers) (hz : a.tmps.size = a0.tmps.size) (hfree : ∀ s : Tmp, (∀ (i : Nat) (o : Oper), i < m → l[i]? = some o → o.dst ≠ some s) → a.tmps[s]? = a0.tmps[s]?) :
    (⟨frameF (l.take m) a0.tmps (fun s => a.eval (.tmp s)), a0.defers⟩ : Act) = a := by
  cases a with
  | mk t d =>
    have h1 : d = a0.defers := hd
    have h2 : t.size = a0.tmps.size := hz
    subst h1
    congr 1
    apply Array.ext_getElem?
    intro s
    unfold frameF
    rw [List.getElem?_toArray, frameL_at]
    simp only [Nat.zero_add]
    by_cases hsz : s < a0.tmps.size
    · rw [Array.getElem?_toList, Array.getElem?_eq_getElem hsz]
      simp only [Option.map_some]
      by_cases ha : hasF (l.take m) s = true
      · rw [if_pos ha]
        simp only [Act.eval]
        rw [Array.getElem?_eq_getElem (by omega)]
        simp [Array.getD, h2, hsz]
      · rw [if_neg ha]
        have := hfree s (fun i o him ho hds => by
          apply ha
          refine hasF_iff.2 ⟨o, ?_, hds⟩
          refine List.mem_of_getElem? (i := i) ?_
          rw [List.getElem?_take, if_pos him]
          exact ho)
        rw [this, Array.getElem?_eq_getElem hsz]
    · rw [Array.getElem?_toList, Array.getElem?_eq_none (by omega), Array.getElem?_eq_none (by omega)]
      rfl
def InvT (P : Program) (ops : Array Oper) (Q : Exit → Act → World → Prop) (R : World → World → Prop) (G : Nat → Value → World → Prop) (w0 : World) (a0 : Act) (m : Nat) (listed : Array Bool) (a : Act) (w : World) : Prop :=
  ((∀ i, m ≤ i → listed.getD i false = false) ∧ InvF ops R G w0 a0 listed a w) ∨ ∃ k, m < k ∧ k ≤ ops.size ∧ (∀ i, listed.getD i false = true ↔ i < k) ∧ wpOps P ops Q (List.range' k (ops.size - k)) a w
theorem getD_out {listed : Array Bool} {i : Nat} (h : listed.size ≤ i) : listed.getD i false = false := by
  simp [Array.getD, Nat.not_lt.2 h]
/-- The first m operations come in whatever order; the others, in the order of the text, behind them. -/
theorem wp_region_flow {id : Nat} {l : List Oper} {a0 : Act} {w0 : World} (m : Nat) (hml : m < l.length) (hm : P.follows .mixedOrders = true) (R : World → World → Prop) (htrans : ∀ a b c, R a b → R b c → R a c) (hdraw : R w0 { w0 with drawn := w0.drawn + 1 })
    (G : Nat → Value → World → Prop) (deps : List (List (Nat × Tmp))) (frees : List (List (Tmp × Value))) (hsh : flowB l.toArray = true) (htl : tailB l.toArray m = true) (hkn : knowB l.toArray deps (frees.map (·.map (·.1))) = true)
    (hdst : (l.toArray.all fun o => match o.dst with | none => true | some s => decide (s < a0.tmps.size)) = true)
    (hfreeA : FreeA a0 frees)
    (hkeep : ∀ i v w w', R w0 w → G i v w → R w w' → G i v w')
    (hops : FlowL P Q R G w0 0 (l.take m) deps frees)
    (hend : ∀ (f : Tmp → Value) (w : World), R w0 w → (∀ (i : Nat) (o : Oper) (s : Tmp), i < m → l[i]? = some o → o.dst = some s → G i (f s) w) → wpList P l.toArray Q (l.drop m) ⟨frameF (l.take m) a0.tmps f, a0.defers⟩ w) :
    (Code.region id l.toArray true).wp P Q a0 w0 := by
  have hsz : l.toArray.size = l.length := by simp
  have hfree := freeA_at hfreeA
  replace hdst : ∀ (i : Nat) (o : Oper) (s : Tmp), l.toArray[i]? = some o → o.dst = some s → s < a0.tmps.size := fun i o s ho hd => by
    have := Array.all_eq_true_iff_forall_mem.1 hdst o (Array.mem_of_getElem? ho)
    simpa [hd] using this
  have hlo : ∀ (i : Nat) (o : Oper), l.toArray[i]? = some o ↔ l[i]? = some o := fun i o => by simp
  simp only [tailB, Bool.and_eq_true] at htl
  have hsuc : ∀ i, i < m → ∃ j, i < j ∧ j ≤ m ∧ waitsB l.toArray 1 j i = true := fun i hi => by
    have h1 := List.all_eq_true.1 htl.1 i (by simpa using hi)
    obtain ⟨j, hj, h2⟩ := List.any_eq_true.1 h1
    simp only [Bool.and_eq_true, decide_eq_true_eq] at h2
    have hj' : j < m + 1 := by simpa using hj
    exact ⟨j, h2.1, by omega, h2.2⟩
  have hpre : ∀ i, m < i → i < l.length → waitsB l.toArray 1 i (i - 1) = true := fun i h1 h2 => by
    have h3 := List.all_eq_true.1 htl.2 i (by simpa using h2)
    simp only [Bool.or_eq_true, decide_eq_true_eq] at h3
    exact h3.resolve_left (by omega)
  refine wp_region_any hm ?_
  refine wpAny_invF (InvT P l.toArray Q R G w0 a0 m) ?_ ?_ _ _ _ _ (by simp) (by simp) ?_
  · intro listed a w i hs hI hi
    obtain ⟨hun, o, ho, hall⟩ := mem_ready.1 hi
    have hio := (Array.getElem?_eq_some_iff.1 ho).1
    have hil : i < listed.size := by omega
    have hunF : listed.getD i false = false := by
      rw [Array.getD_eq_getD_getElem?, Array.getElem?_eq_getElem hil] at hun ⊢
      simpa using hun
    have hall' : ∀ o', l.toArray[i]? = some o' → ∀ e ∈ o'.after, Region.binds .any e = true → listed.getD e.on false = true := fun o' ho' => by rw [ho] at ho'; cases ho'; exact hall
    rcases hI with ⟨hhi, hI⟩ | ⟨k, hk1, hk2, hk3, hk4⟩
    · by_cases him : i < m
      · have hg := flow_guard hsh ho
        obtain ⟨dd, ff, hdd, hff, h1⟩ := flowL_at hops i o (by rw [List.getElem?_take, if_pos him]; simpa using ho)
        simp only [knowB, Bool.and_eq_true] at hkn
        rw [Nat.zero_add] at h1
        replace h1 := h1 a w hI.but
          (knowF_of fun p hp => by
            have hm : (dd, i) ∈ deps.zipIdx := by
              rw [List.mem_zipIdx_iff_getElem?]
              simpa using hdd
            have h2 := List.all_eq_true.1 (List.all_eq_true.1 hkn.1 _ hm) p hp
            simp only [Bool.and_eq_true, beq_iff_eq] at h2
            obtain ⟨oj, hj, hd⟩ := Option.bind_eq_some_iff.1 h2.2
            exact hI.done p.1 oj p.2 hj (waits_listed hI.closed 2 i p.1 hall' h2.1) hd)
          (freeF_of fun p hp => by
            have hmf : (ff.map (·.1), i) ∈ (frees.map (·.map (·.1))).zipIdx := by
              rw [List.mem_zipIdx_iff_getElem?]
              simp [hff]
            have hfr := List.all_eq_true.1 (List.all_eq_true.1 hkn.2 _ hmf) p.1 (List.mem_map.2 ⟨p, hp, rfl⟩)
            have := hI.free p.1 (fun j oj hj hd => by
              cases hl : listed.getD j false with
              | false => rfl
              | true =>
                exfalso
                have hm : (oj, j) ∈ l.toArray.toList.zipIdx := by
                  rw [List.mem_zipIdx_iff_getElem?]
                  simpa using hj
                have h2 := List.all_eq_true.1 hfr _ hm
                simp only [hd, bne_self_eq_false, Bool.false_or, Bool.or_eq_true, beq_iff_eq] at h2
                rcases h2 with rfl | h2
                · rw [hunF] at hl; cases hl
                · have := waits_listed hI.closed 3 j i (fun o' ho' => hI.closed j o' ho' hl) h2
                  rw [hunF] at this; cases this)
            rw [← hfree ff (List.mem_of_getElem? hff) p hp]
            simp only [Act.eval, Array.getD_eq_getD_getElem?]
            rw [this])
        unfold wpOp
        simp only [ho]
        rw [if_pos (by simp [Region.wanted, hg])]
        refine .inl (Oper.wp_mono ?_ h1)
        rintro a' w' ⟨hb, v, rfl, hGi⟩
        refine .inl ⟨fun j hj => ?_, htrans _ _ _ hI.but hb, ?_, ?_, ?_, ?_, ?_⟩
        · rw [getD_set_ne false (by omega)]
          exact hhi j hj
        · cases o.dst <;> exact hI.defers
        · cases o.dst
          · exact hI.size
          · simpa [Act.put] using hI.size
        · intro j oj hj hl e he hbi
          rw [getD_setF hil]
          rcases (getD_setF hil).1 hl with rfl | hl
          · rw [ho] at hj; cases hj; exact .inr (hall e he hbi)
          · exact .inr (hI.closed j oj hj hl e he hbi)
        · intro j oj s hj hl hd
          rcases (getD_setF hil).1 hl with rfl | hl2
          · rw [ho] at hj; cases hj
            rw [hd, eval_sameF (by rw [hI.size]; exact hdst _ _ _ ho hd)]
            exact hGi
          · have hji : j ≠ i := fun e => by rw [e, hunF] at hl2; cases hl2
            have := hkeep _ _ _ _ hI.but (hI.done j oj s hj hl2 hd) hb
            cases hod : o.dst with
            | none => exact this
            | some d =>
              rw [eval_putF (fun e => by subst e; exact flow_once hsh ho hj hd hji hod)]
              exact this
        · intro s hfr
          have hso : o.dst ≠ some s := fun e => by
            have := hfr i o ho e
            rw [(getD_setF hil).2 (.inl rfl)] at this; cases this
          have h2 := hI.free s (fun j oj hj hd => by
            cases hl : listed.getD j false with
            | false => rfl
            | true => have := hfr j oj hj hd; rw [(getD_setF hil).2 (.inr hl)] at this; cases this)
          rw [← h2]
          cases hod : o.dst with
          | none => rfl
          | some d =>
            have : d ≠ s := fun e => hso (by rw [hod, e])
            simp [Act.put, Array.getElem?_setIfInBounds_ne this]
      · have hiem : i = m := by
          by_cases h : i = m
          · exact h
          · have h1 := waits_one (hpre i (by omega) (by omega)) hall'
            rw [hhi (i - 1) (by omega)] at h1
            cases h1
        subst hiem
        have hlist : ∀ d j, j < i → i - j ≤ d → listed.getD j false = true := by
          intro d
          induction d with
          | zero => intro j h1 h2; omega
          | succ d ih =>
            intro j h1 h2
            obtain ⟨j', h3, h4, h5⟩ := hsuc j h1
            by_cases h6 : j' = i
            · subst h6; exact waits_one h5 hall'
            · exact waits_one h5 (fun o' ho' => hI.closed j' o' ho' (ih j' (by omega) (by omega)))
        have hfr : (⟨frameF (l.take i) a0.tmps (fun s => a.eval (.tmp s)), a0.defers⟩ : Act) = a := frame_eqF hI.defers hI.size (fun s hs' => hI.free s (fun j oj hj hd => by
          by_cases hji : j < i
          · exact absurd hd (hs' j oj hji ((hlo j oj).1 hj))
          · exact hhi j (by omega)))
        have hfin := hend (fun s => a.eval (.tmp s)) w hI.but (fun j oj s hji hj hd => hI.done j oj s ((hlo j oj).2 hj) (hlist i j hji (by omega)) hd)
        rw [hfr, ← wpOps_eq_wpList (l.drop i) i (fun j => by simp)] at hfin
        rw [List.length_drop, show l.length - i = (l.length - (i + 1)) + 1 by omega, List.range'_succ, wpOps_cons] at hfin
        refine wpOp_mono (fun a' w' h' => .inr ⟨i + 1, by omega, by omega, fun j => ?_, by rw [hsz]; exact h'⟩) hfin
        rw [getD_setF hil]
        constructor
        · rintro (rfl | h)
          · omega
          · by_cases hji : j < i
            · omega
            · rw [hhi j (by omega)] at h; cases h
        · intro h
          by_cases hji : j = i
          · exact .inl hji
          · exact .inr (hlist i j (by omega) (by omega))
    · have hiek : i = k := by
        have h0 : ¬ i < k := fun h => by have := (hk3 i).2 h; rw [hunF] at this; cases this
        by_cases h : i = k
        · exact h
        · have h1 := waits_one (hpre i (by omega) (by omega)) hall'
          have := (hk3 (i - 1)).1 h1
          omega
      subst hiek
      rw [show l.toArray.size - i = (l.toArray.size - (i + 1)) + 1 by omega, List.range'_succ, wpOps_cons] at hk4
      refine wpOp_mono (fun a' w' h' => .inr ⟨i + 1, by omega, by omega, fun j => ?_, h'⟩) hk4
      rw [getD_setF hil, hk3]
      omega
  · intro listed a w hs hI hr
    have hall : ∀ i, i < l.toArray.size → listed.getD i false = true := by
      intro i
      induction i using Nat.strongRecOn with
      | ind i ih =>
        intro hi
        cases hl : listed.getD i false with
        | true => rfl
        | false =>
          exfalso
          have hmem : i ∈ Region.ready .any l.toArray listed := by
            refine mem_ready.2 ⟨?_, l.toArray[i], Array.getElem?_eq_getElem hi, fun e he hb => ?_⟩
            · have hlt : i < listed.size := by omega
              rw [Array.getD_eq_getD_getElem?, Array.getElem?_eq_getElem hlt] at hl ⊢
              simpa using hl
            · have := flow_lex hsh (Array.getElem?_eq_getElem hi) e he hb
              exact ih e.on this (by omega)
          rw [hr] at hmem
          cases hmem
    rcases hI with ⟨hhi, _⟩ | ⟨k, hk1, hk2, hk3, hk4⟩
    · have h1 := hall m (by omega)
      rw [hhi m (Nat.le_refl _)] at h1
      cases h1
    · have hke : k = l.toArray.size := by
        by_cases h : k < l.toArray.size
        · have := (hk3 k).1 (hall k h); omega
        · omega
      rw [hke, Nat.sub_self] at hk4
      exact hk4
  · refine .inl ⟨fun i _ => ?_, hdraw, rfl, rfl, ?_, ?_, fun s _ => rfl⟩
    · by_cases h : i < l.toArray.size
      · have h' : i < l.length := by omega
        simp [Array.getD, h']
      · exact getD_out (by simpa using h)
    · intro j oj hj hl
      have hj' := (Array.getElem?_eq_some_iff.1 hj).1
      have hj2 : j < l.length := by omega
      simp [hj2] at hl
    · intro j oj s hj hl
      have hj' := (Array.getElem?_eq_some_iff.1 hj).1
      have hj2 : j < l.length := by omega
      simp [hj2] at hl
/-- An operation that leaves a value. -/
theorem flow_run {R : World → World → Prop} {G : Nat → Value → World → Prop} {i : Nat} {o : Oper} {a : Act} {w w' : World} {v : Value} (hr : (execOp a.eval o).run P w = .ok (.value v) w') (hb : R w w') (hG : G i v w') :
    o.wp P a w (fun a' w' => R w w' ∧ ∃ v, a' = a.put o.dst v ∧ G i v w') Q := by
  unfold Oper.wp
  rw [hr]
  exact ⟨hb, v, rfl, hG⟩
/-- A call. -/
theorem flow_call {R : World → World → Prop} {G : Nat → Value → World → Prop} {i : Nat} {o : Oper} {a : Act} {w : World} {f : FuncId} {args : Array Value} (hr : (execOp a.eval o).run P w = .ok (.enter f args) w) (hc : Calls P f args w fun e w' => ∃ v, e = .returned v ∧ R w w' ∧ G i v w') :
    o.wp P a w (fun a' w' => R w w' ∧ ∃ v, a' = a.put o.dst v ∧ G i v w') Q := by
  unfold Oper.wp
  rw [hr]
  refine hc.mono ?_
  rintro e w' ⟨v, rfl, hb, hG⟩
  exact ⟨hb, v, rfl, hG⟩
end
end Go.Proofs.Ytmbmmcippglfoaa.M
namespace Go.Proofs.Ytmbmmcippglfoaa.M
open Go.RowKit
set_option linter.unusedVariables false
set_option linter.unusedSectionVars false
set_option linter.unusedSimpArgs false
section
variable {P : Program} {ops : Array Oper} {Q : Exit → Act → World → Prop}
theorem calls_round {l n : Nat} {f : FuncId} {args : Array Value} {w : World} {R : Ending → World → Prop} (h : Calls P f args w R) : CallsIn (Fence.wide.inRound l) n P f args w R :=
  show CallsIn Fence.wide n P f args w R from callsIn_wide.2 h
theorem rows_round {l n : Nat} {row : String} {args : Array Value} {w : World} {R : Value → World → Prop} (h : Rows P row args w R) : RowsIn (Fence.wide.inRound l) n P row args w R := fun c cs _ => by
  obtain ⟨v, w', r, s⟩ := h c cs
  exact ⟨v, w', r, stepsIn_wide.2 s⟩
theorem oper_in {l n : Nat} {o : Oper} (ho : ∀ c, o.op ≠ .defer c) {a : Act} {w : World} {K : Act → World → Prop} (h : o.wp P a w K Q) : o.wpIn (Fence.wide.inRound l) n P a w K Q := by
  refine ⟨fun _ _ => trivial, ?_⟩
  rw [Oper.semAt_eq _ _ _ ho]
  unfold Oper.wp at h
  generalize (execOp a.eval o).run P w = r at *
  cases r with
  | ok x w' =>
    cases x with
    | value v => exact h
    | skip => exact h
    | defer d => exact h
    | enter f args => exact ⟨fun hd => by simp [Fence.wide] at hd, calls_round h⟩
    | row row args => exact ⟨fun hd => by simp [Fence.wide] at hd, rows_round h⟩
    | _ => first | exact h.elim | exact h
  | halt x w' => cases x <;> first | exact h | exact h.elim
/-- For the kernel: no operation defers. -/
def NoDeferB : List Oper → Bool
  | [] => true
  | o :: r => (match o.op with | .defer _ => false | _ => true) && NoDeferB r
theorem noDefer : ∀ {l : List Oper}, NoDeferB l = true → ∀ {i : Nat} {o : Oper}, l[i]? = some o → ∀ c, o.op ≠ .defer c
  | [], _, i, o, ho, c => by simp at ho
  | x :: r, h, 0, o, ho, c => by
    simp only [List.getElem?_cons_zero, Option.some.injEq] at ho
    subst ho
    intro e
    simp [NoDeferB, e] at h
  | x :: r, h, i + 1, o, ho, c => by
    simp only [NoDeferB, Bool.and_eq_true] at h
    exact noDefer h.2 (by simpa using ho) c
theorem wpOpsIn_eqF {F : Fence} {n : Nat} (l : List Oper) : ∀ k, (∀ j, l[j]? = ops[k + j]?) → wpOpsIn F n P ops Q (List.range' k l.length) = wpListIn F n P ops Q l := by
  induction l with
  | nil => intro k _; funext a w; simp [wpOpsIn, wpListIn]
  | cons o l ih =>
    intro k h
    have h0 : ops[k]? = some o := by simpa using (h 0).symm
    have h1 := ih (k + 1) (fun j => by have := h (j + 1); simp only [List.getElem?_cons_succ] at this; rw [this]; congr 1; omega)
    funext a w
    rw [List.length_cons, List.range'_succ]
    simp only [wpOpsIn, wpListIn, h0, h1]
/-- An invariant that every operation keeps, in whatever order. -/
theorem wpAnyIn_invF {F : Fence} {n : Nat} (Inv : Array Bool → Act → World → Prop)
    (hstep : ∀ (listed : Array Bool) (a : Act) (w : World) (i : Nat), listed.size = ops.size → Inv listed a w → i ∈ Region.ready .any ops listed →
      wpOpIn F n P ops Q i (Inv (listed.setIfInBounds i true)) a w)
    (hend : ∀ (listed : Array Bool) (a : Act) (w : World), listed.size = ops.size → Inv listed a w → Region.ready .any ops listed = [] → Q .normal a w) :
    ∀ (fuel : Nat) (listed : Array Bool) (a : Act) (w : World), listed.size = ops.size → listed.toList.count false ≤ fuel → Inv listed a w →
      wpAnyIn F n P .any ops Q fuel listed a w := by
  intro fuel
  induction fuel with
  | zero =>
    intro listed a w hs hc hI
    have hr := ready_noneF hs (Nat.le_zero.1 hc)
    exact ⟨hr, hend listed a w hs hI hr⟩
  | succ fuel ih =>
    intro listed a w hs hc hI
    refine ⟨fun hr => hend listed a w hs hI hr, fun i hi => ?_⟩
    refine wpOpIn_mono (fun a' w' hI' => ih _ a' w' (by simpa using hs) ?_ hI') (hstep listed a w i hs hI hi)
    obtain ⟨h0, o, ho, _⟩ := mem_ready.1 hi
    have hlt : i < listed.size := by rw [hs]; exact (Array.getElem?_eq_some_iff.1 ho).1
    have hf : listed.toList[i]? = some false := by
      rw [Array.getD_eq_getD_getElem?, Array.getElem?_eq_getElem hlt] at h0
      simp only [Option.getD_some] at h0
      rw [List.getElem?_eq_getElem (by simpa using hlt)]
      simpa using h0
    have := count_setF hf
    simp only [Array.toList_setIfInBounds]
    omega
def InvTIn (F : Fence) (n : Nat) (P : Program) (ops : Array Oper) (Q : Exit → Act → World → Prop) (R : World → World → Prop) (G : Nat → Value → World → Prop) (w0 : World) (a0 : Act) (m : Nat) (listed : Array Bool) (a : Act) (w : World) : Prop :=
  ((∀ i, m ≤ i → listed.getD i false = false) ∧ InvF ops R G w0 a0 listed a w) ∨ ∃ k, m < k ∧ k ≤ ops.size ∧ (∀ i, listed.getD i false = true ↔ i < k) ∧ wpOpsIn F n P ops Q (List.range' k (ops.size - k)) a w
theorem wpIn_region_flow {lp n : Nat} {id : Nat} {l : List Oper} {a0 : Act} {w0 : World} (hnd : NoDeferB l = true) (m : Nat) (hml : m < l.length) (hm : P.follows .mixedOrders = true) (R : World → World → Prop) (htrans : ∀ a b c, R a b → R b c → R a c) (hdraw : R w0 { w0 with drawn := w0.drawn + 1 })
    (G : Nat → Value → World → Prop) (deps : List (List (Nat × Tmp))) (frees : List (List (Tmp × Value))) (hsh : flowB l.toArray = true) (htl : tailB l.toArray m = true) (hkn : knowB l.toArray deps (frees.map (·.map (·.1))) = true)
    (hdst : (l.toArray.all fun o => match o.dst with | none => true | some s => decide (s < a0.tmps.size)) = true)
    (hfreeA : FreeA a0 frees)
    (hkeep : ∀ i v w w', R w0 w → G i v w → R w w' → G i v w')
    (hops : FlowL P Q R G w0 0 (l.take m) deps frees)
    (hend : ∀ (f : Tmp → Value) (w : World), R w0 w → (∀ (i : Nat) (o : Oper) (s : Tmp), i < m → l[i]? = some o → o.dst = some s → G i (f s) w) → wpListIn (Fence.wide.inRound lp) n P l.toArray Q (l.drop m) ⟨frameF (l.take m) a0.tmps f, a0.defers⟩ w) :
    (Code.region id l.toArray true).wpIn (Fence.wide.inRound lp) n P Q a0 w0 := by
  have hsz : l.toArray.size = l.length := by simp
  have hfree := freeA_at hfreeA
  replace hdst : ∀ (i : Nat) (o : Oper) (s : Tmp), l.toArray[i]? = some o → o.dst = some s → s < a0.tmps.size := fun i o s ho hd => by
    have := Array.all_eq_true_iff_forall_mem.1 hdst o (Array.mem_of_getElem? ho)
    simpa [hd] using this
  have hlo : ∀ (i : Nat) (o : Oper), l.toArray[i]? = some o ↔ l[i]? = some o := fun i o => by simp
  simp only [tailB, Bool.and_eq_true] at htl
  have hsuc : ∀ i, i < m → ∃ j, i < j ∧ j ≤ m ∧ waitsB l.toArray 1 j i = true := fun i hi => by
    have h1 := List.all_eq_true.1 htl.1 i (by simpa using hi)
    obtain ⟨j, hj, h2⟩ := List.any_eq_true.1 h1
    simp only [Bool.and_eq_true, decide_eq_true_eq] at h2
    have hj' : j < m + 1 := by simpa using hj
    exact ⟨j, h2.1, by omega, h2.2⟩
  have hpre : ∀ i, m < i → i < l.length → waitsB l.toArray 1 i (i - 1) = true := fun i h1 h2 => by
    have h3 := List.all_eq_true.1 htl.2 i (by simpa using h2)
    simp only [Bool.or_eq_true, decide_eq_true_eq] at h3
    exact h3.resolve_left (by omega)
  refine wpIn_region_any hm ?_
  refine wpAnyIn_invF (InvTIn (Fence.wide.inRound lp) n P l.toArray Q R G w0 a0 m) ?_ ?_ _ _ _ _ (by simp) (by simp) ?_
  · intro listed a w i hs hI hi
    obtain ⟨hun, o, ho, hall⟩ := mem_ready.1 hi
    have hio := (Array.getElem?_eq_some_iff.1 ho).1
    have hil : i < listed.size := by omega
    have hunF : listed.getD i false = false := by
      rw [Array.getD_eq_getD_getElem?, Array.getElem?_eq_getElem hil] at hun ⊢
      simpa using hun
    have hall' : ∀ o', l.toArray[i]? = some o' → ∀ e ∈ o'.after, Region.binds .any e = true → listed.getD e.on false = true := fun o' ho' => by rw [ho] at ho'; cases ho'; exact hall
    rcases hI with ⟨hhi, hI⟩ | ⟨k, hk1, hk2, hk3, hk4⟩
    · by_cases him : i < m
      · have hg := flow_guard hsh ho
        obtain ⟨dd, ff, hdd, hff, h1⟩ := flowL_at hops i o (by rw [List.getElem?_take, if_pos him]; simpa using ho)
        simp only [knowB, Bool.and_eq_true] at hkn
        rw [Nat.zero_add] at h1
        replace h1 := h1 a w hI.but
          (knowF_of fun p hp => by
            have hm : (dd, i) ∈ deps.zipIdx := by
              rw [List.mem_zipIdx_iff_getElem?]
              simpa using hdd
            have h2 := List.all_eq_true.1 (List.all_eq_true.1 hkn.1 _ hm) p hp
            simp only [Bool.and_eq_true, beq_iff_eq] at h2
            obtain ⟨oj, hj, hd⟩ := Option.bind_eq_some_iff.1 h2.2
            exact hI.done p.1 oj p.2 hj (waits_listed hI.closed 2 i p.1 hall' h2.1) hd)
          (freeF_of fun p hp => by
            have hmf : (ff.map (·.1), i) ∈ (frees.map (·.map (·.1))).zipIdx := by
              rw [List.mem_zipIdx_iff_getElem?]
              simp [hff]
            have hfr := List.all_eq_true.1 (List.all_eq_true.1 hkn.2 _ hmf) p.1 (List.mem_map.2 ⟨p, hp, rfl⟩)
            have := hI.free p.1 (fun j oj hj hd => by
              cases hl : listed.getD j false with
              | false => rfl
              | true =>
                exfalso
                have hm : (oj, j) ∈ l.toArray.toList.zipIdx := by
                  rw [List.mem_zipIdx_iff_getElem?]
                  simpa using hj
                have h2 := List.all_eq_true.1 hfr _ hm
                simp only [hd, bne_self_eq_false, Bool.false_or, Bool.or_eq_true, beq_iff_eq] at h2
                rcases h2 with rfl | h2
                · rw [hunF] at hl; cases hl
                · have := waits_listed hI.closed 3 j i (fun o' ho' => hI.closed j o' ho' hl) h2
                  rw [hunF] at this; cases this)
            rw [← hfree ff (List.mem_of_getElem? hff) p hp]
            simp only [Act.eval, Array.getD_eq_getD_getElem?]
            rw [this])
        unfold wpOpIn
        simp only [ho]
        rw [if_pos (by simp [Region.wanted, hg])]
        refine oper_in (noDefer hnd (by simpa using ho)) (Oper.wp_mono ?_ h1)
        rintro a' w' ⟨hb, v, rfl, hGi⟩
        refine .inl ⟨fun j hj => ?_, htrans _ _ _ hI.but hb, ?_, ?_, ?_, ?_, ?_⟩
        · rw [getD_set_ne false (by omega)]
          exact hhi j hj
        · cases o.dst <;> exact hI.defers
        · cases o.dst
          · exact hI.size
          · simpa [Act.put] using hI.size
        · intro j oj hj hl e he hbi
          rw [getD_setF hil]
          rcases (getD_setF hil).1 hl with rfl | hl
          · rw [ho] at hj; cases hj; exact .inr (hall e he hbi)
          · exact .inr (hI.closed j oj hj hl e he hbi)
        · intro j oj s hj hl hd
          rcases (getD_setF hil).1 hl with rfl | hl2
          · rw [ho] at hj; cases hj
            rw [hd, eval_sameF (by rw [hI.size]; exact hdst _ _ _ ho hd)]
            exact hGi
          · have hji : j ≠ i := fun e => by rw [e, hunF] at hl2; cases hl2
            have := hkeep _ _ _ _ hI.but (hI.done j oj s hj hl2 hd) hb
            cases hod : o.dst with
            | none => exact this
            | some d =>
              rw [eval_putF (fun e => by subst e; exact flow_once hsh ho hj hd hji hod)]
              exact this
        · intro s hfr
          have hso : o.dst ≠ some s := fun e => by
            have := hfr i o ho e
            rw [(getD_setF hil).2 (.inl rfl)] at this; cases this
          have h2 := hI.free s (fun j oj hj hd => by
            cases hl : listed.getD j false with
            | false => rfl
            | true => have := hfr j oj hj hd; rw [(getD_setF hil).2 (.inr hl)] at this; cases this)
          rw [← h2]
          cases hod : o.dst with
          | none => rfl
          | some d =>
            have : d ≠ s := fun e => hso (by rw [hod, e])
            simp [Act.put, Array.getElem?_setIfInBounds_ne this]
      · have hiem : i = m := by
          by_cases h : i = m
          · exact h
          · have h1 := waits_one (hpre i (by omega) (by omega)) hall'
            rw [hhi (i - 1) (by omega)] at h1
            cases h1
        subst hiem
        have hlist : ∀ d j, j < i → i - j ≤ d → listed.getD j false = true := by
          intro d
          induction d with
          | zero => intro j h1 h2; omega
          | succ d ih =>
            intro j h1 h2
            obtain ⟨j', h3, h4, h5⟩ := hsuc j h1
            by_cases h6 : j' = i
            · subst h6; exact waits_one h5 hall'
            · exact waits_one h5 (fun o' ho' => hI.closed j' o' ho' (ih j' (by omega) (by omega)))
        have hfr : (⟨frameF (l.take i) a0.tmps (fun s => a.eval (.tmp s)), a0.defers⟩ : Act) = a := frame_eqF hI.defers hI.size (fun s hs' => hI.free s (fun j oj hj hd => by
          by_cases hji : j < i
          · exact absurd hd (hs' j oj hji ((hlo j oj).1 hj))
          · exact hhi j (by omega)))
        have hfin := hend (fun s => a.eval (.tmp s)) w hI.but (fun j oj s hji hj hd => hI.done j oj s ((hlo j oj).2 hj) (hlist i j hji (by omega)) hd)
        rw [hfr, ← wpOpsIn_eqF (l.drop i) i (fun j => by simp)] at hfin
        rw [List.length_drop, show l.length - i = (l.length - (i + 1)) + 1 by omega, List.range'_succ, wpOpsIn_cons] at hfin
        refine wpOpIn_mono (fun a' w' h' => .inr ⟨i + 1, by omega, by omega, fun j => ?_, by rw [hsz]; exact h'⟩) hfin
        rw [getD_setF hil]
        constructor
        · rintro (rfl | h)
          · omega
          · by_cases hji : j < i
            · omega
            · rw [hhi j (by omega)] at h; cases h
        · intro h
          by_cases hji : j = i
          · exact .inl hji
          · exact .inr (hlist i j (by omega) (by omega))
    · have hiek : i = k := by
        have h0 : ¬ i < k := fun h => by have := (hk3 i).2 h; rw [hunF] at this; cases this
        by_cases h : i = k
        · exact h
        · have h1 := waits_one (hpre i (by omega) (by omega)) hall'
          have := (hk3 (i - 1)).1 h1
          omega
      subst hiek
      rw [show l.toArray.size - i = (l.toArray.size - (i + 1)) + 1 by omega, List.range'_succ, wpOpsIn_cons] at hk4
      refine wpOpIn_mono (fun a' w' h' => .inr ⟨i + 1, by omega, by omega, fun j => ?_, h'⟩) hk4
      rw [getD_setF hil, hk3]
      omega
  · intro listed a w hs hI hr
    have hall : ∀ i, i < l.toArray.size → listed.getD i false = true := by
      intro i
      induction i using Nat.strongRecOn with
      | ind i ih =>
        intro hi
        cases hl : listed.getD i false with
        | true => rfl
        | false =>
          exfalso
          have hmem : i ∈ Region.ready .any l.toArray listed := by
            refine mem_ready.2 ⟨?_, l.toArray[i], Array.getElem?_eq_getElem hi, fun e he hb => ?_⟩
            · have hlt : i < listed.size := by omega
              rw [Array.getD_eq_getD_getElem?, Array.getElem?_eq_getElem hlt] at hl ⊢
              simpa using hl
            · have := flow_lex hsh (Array.getElem?_eq_getElem hi) e he hb
              exact ih e.on this (by omega)
          rw [hr] at hmem
          cases hmem
    rcases hI with ⟨hhi, _⟩ | ⟨k, hk1, hk2, hk3, hk4⟩
    · have h1 := hall m (by omega)
      rw [hhi m (Nat.le_refl _)] at h1
      cases h1
    · have hke : k = l.toArray.size := by
        by_cases h : k < l.toArray.size
        · have := (hk3 k).1 (hall k h); omega
        · omega
      rw [hke, Nat.sub_self] at hk4
      exact hk4
  · refine .inl ⟨fun i _ => ?_, hdraw, rfl, rfl, ?_, ?_, fun s _ => rfl⟩
    · by_cases h : i < l.toArray.size
      · have h' : i < l.length := by omega
        simp [Array.getD, h']
      · exact getD_out (by simpa using h)
    · intro j oj hj hl
      have hj' := (Array.getElem?_eq_some_iff.1 hj).1
      have hj2 : j < l.length := by omega
      simp [hj2] at hl
    · intro j oj s hj hl
      have hj' := (Array.getElem?_eq_some_iff.1 hj).1
      have hj2 : j < l.length := by omega
      simp [hj2] at hl
end
end Go.Proofs.Ytmbmmcippglfoaa.M
namespace Go.Proofs.Ytmbmmcippglfoaa.M
open Go.RowKit
set_option linter.unusedVariables false
set_option linter.unusedSectionVars false
set_option linter.unusedSimpArgs false
section
variable {P : Program} {ops : Array Oper} {Q : Exit → Act → World → Prop}
def InvTIn1 (F : Fence) (n : Nat) (P : Program) (ops : Array Oper) (Q : Exit → Act → World → Prop) (R : World → World → Prop) (G : Nat → Value → World → Prop) (w0 : World) (a0 : Act) (m late : Nat) (listed : Array Bool) (a : Act) (w : World) : Prop :=
  ((∀ i, m ≤ i → listed.getD i false = false) ∧ InvF ops R G w0 a0 listed a w) ∨ (∃ k, m < k ∧ k ≤ ops.size ∧ (∀ i, listed.getD i false = true ↔ i < k) ∧ wpOpsIn F n P ops Q (List.range' k (ops.size - k)) a w) ∨ ((∀ i, listed.getD i false = true ↔ i ≤ m ∧ i ≠ late) ∧ wpOpIn F n P ops Q late (wpOpsIn F n P ops Q (List.range' (m + 1) (ops.size - (m + 1)))) a w)
/-- For the kernel: as tailB, but one of the first operations may come behind number m; then the next one waits on it. -/
def tailB1 (ops : Array Oper) (m late : Nat) : Bool :=
  ((List.range m).all (fun i => i == late || (List.range (m + 1)).any fun j => decide (i < j) && (j != late && waitsB ops 1 j i)) &&
  (List.range ops.size).all fun i => decide (i ≤ m) || waitsB ops 1 i (i - 1)) && (decide (late < m) && (decide (m + 1 < ops.size) && waitsB ops 1 (m + 1) late))
theorem wpIn_region_flow1 {lp n : Nat} {id : Nat} {l : List Oper} {a0 : Act} {w0 : World} (hnd : NoDeferB l = true) (m late : Nat) (hml : m < l.length) (hm : P.follows .mixedOrders = true) (R : World → World → Prop) (htrans : ∀ a b c, R a b → R b c → R a c) (hdraw : R w0 { w0 with drawn := w0.drawn + 1 })
    (G : Nat → Value → World → Prop) (deps : List (List (Nat × Tmp))) (frees : List (List (Tmp × Value))) (hsh : flowB l.toArray = true) (htl : tailB1 l.toArray m late = true) (hkn : knowB l.toArray deps (frees.map (·.map (·.1))) = true)
    (hdst : (l.toArray.all fun o => match o.dst with | none => true | some s => decide (s < a0.tmps.size)) = true)
    (hfreeA : FreeA a0 frees)
    (hkeep : ∀ i v w w', R w0 w → G i v w → R w w' → G i v w')
    (hops : FlowL P Q R G w0 0 (l.take m) deps frees)
    (hend : ∀ (f : Tmp → Value) (w : World), R w0 w → (∀ (i : Nat) (o : Oper) (s : Tmp), i < m → l[i]? = some o → o.dst = some s → G i (f s) w) → wpListIn (Fence.wide.inRound lp) n P l.toArray Q (l.drop m) ⟨frameF (l.take m) a0.tmps f, a0.defers⟩ w)
    (hend1 : ∀ (om ol : Oper), l[m]? = some om → l[late]? = some ol → ∀ (f : Tmp → Value) (w : World), R w0 w → (∀ (i : Nat) (o : Oper) (s : Tmp), i < m → i ≠ late → l[i]? = some o → o.dst = some s → G i (f s) w) → wpListIn (Fence.wide.inRound lp) n P l.toArray Q (om :: ol :: l.drop (m + 1)) ⟨frameF (l.take m) a0.tmps f, a0.defers⟩ w) :
    (Code.region id l.toArray true).wpIn (Fence.wide.inRound lp) n P Q a0 w0 := by
  have hsz : l.toArray.size = l.length := by simp
  have hfree := freeA_at hfreeA
  replace hdst : ∀ (i : Nat) (o : Oper) (s : Tmp), l.toArray[i]? = some o → o.dst = some s → s < a0.tmps.size := fun i o s ho hd => by
    have := Array.all_eq_true_iff_forall_mem.1 hdst o (Array.mem_of_getElem? ho)
    simpa [hd] using this
  have hlo : ∀ (i : Nat) (o : Oper), l.toArray[i]? = some o ↔ l[i]? = some o := fun i o => by simp
  simp only [tailB1, Bool.and_eq_true, decide_eq_true_eq] at htl
  obtain ⟨htl, hlm, hsz1, hwl⟩ := htl
  rw [hsz] at hsz1
  have hsuc : ∀ i, i < m → i ≠ late → ∃ j, i < j ∧ j ≤ m ∧ j ≠ late ∧ waitsB l.toArray 1 j i = true := fun i hi hne => by
    have h1 := List.all_eq_true.1 htl.1 i (by simpa using hi)
    simp only [Bool.or_eq_true, beq_iff_eq] at h1
    obtain ⟨j, hj, h2⟩ := List.any_eq_true.1 (h1.resolve_left hne)
    simp only [Bool.and_eq_true, decide_eq_true_eq, bne_iff_ne] at h2
    have hj' : j < m + 1 := by simpa using hj
    exact ⟨j, h2.1, by omega, h2.2.1, h2.2.2⟩
  have hpre : ∀ i, m < i → i < l.length → waitsB l.toArray 1 i (i - 1) = true := fun i h1 h2 => by
    have h3 := List.all_eq_true.1 htl.2 i (by simpa using h2)
    simp only [Bool.or_eq_true, decide_eq_true_eq] at h3
    exact h3.resolve_left (by omega)
  refine wpIn_region_any hm ?_
  refine wpAnyIn_invF (InvTIn1 (Fence.wide.inRound lp) n P l.toArray Q R G w0 a0 m late) ?_ ?_ _ _ _ _ (by simp) (by simp) ?_
  · intro listed a w i hs hI hi
    obtain ⟨hun, o, ho, hall⟩ := mem_ready.1 hi
    have hio := (Array.getElem?_eq_some_iff.1 ho).1
    have hil : i < listed.size := by omega
    have hunF : listed.getD i false = false := by
      rw [Array.getD_eq_getD_getElem?, Array.getElem?_eq_getElem hil] at hun ⊢
      simpa using hun
    have hall' : ∀ o', l.toArray[i]? = some o' → ∀ e ∈ o'.after, Region.binds .any e = true → listed.getD e.on false = true := fun o' ho' => by rw [ho] at ho'; cases ho'; exact hall
    rcases hI with ⟨hhi, hI⟩ | ⟨k, hk1, hk2, hk3, hk4⟩ | ⟨hc3, hc4⟩
    · by_cases him : i < m
      · have hg := flow_guard hsh ho
        obtain ⟨dd, ff, hdd, hff, h1⟩ := flowL_at hops i o (by rw [List.getElem?_take, if_pos him]; simpa using ho)
        simp only [knowB, Bool.and_eq_true] at hkn
        rw [Nat.zero_add] at h1
        replace h1 := h1 a w hI.but
          (knowF_of fun p hp => by
            have hm : (dd, i) ∈ deps.zipIdx := by
              rw [List.mem_zipIdx_iff_getElem?]
              simpa using hdd
            have h2 := List.all_eq_true.1 (List.all_eq_true.1 hkn.1 _ hm) p hp
            simp only [Bool.and_eq_true, beq_iff_eq] at h2
            obtain ⟨oj, hj, hd⟩ := Option.bind_eq_some_iff.1 h2.2
            exact hI.done p.1 oj p.2 hj (waits_listed hI.closed 2 i p.1 hall' h2.1) hd)
          (freeF_of fun p hp => by
            have hmf : (ff.map (·.1), i) ∈ (frees.map (·.map (·.1))).zipIdx := by
              rw [List.mem_zipIdx_iff_getElem?]
              simp [hff]
            have hfr := List.all_eq_true.1 (List.all_eq_true.1 hkn.2 _ hmf) p.1 (List.mem_map.2 ⟨p, hp, rfl⟩)
            have := hI.free p.1 (fun j oj hj hd => by
              cases hl : listed.getD j false with
              | false => rfl
              | true =>
                exfalso
                have hm : (oj, j) ∈ l.toArray.toList.zipIdx := by
                  rw [List.mem_zipIdx_iff_getElem?]
                  simpa using hj
                have h2 := List.all_eq_true.1 hfr _ hm
                simp only [hd, bne_self_eq_false, Bool.false_or, Bool.or_eq_true, beq_iff_eq] at h2
                rcases h2 with rfl | h2
                · rw [hunF] at hl; cases hl
                · have := waits_listed hI.closed 3 j i (fun o' ho' => hI.closed j o' ho' hl) h2
                  rw [hunF] at this; cases this)
            rw [← hfree ff (List.mem_of_getElem? hff) p hp]
            simp only [Act.eval, Array.getD_eq_getD_getElem?]
            rw [this])
        unfold wpOpIn
        simp only [ho]
        rw [if_pos (by simp [Region.wanted, hg])]
        refine oper_in (noDefer hnd (by simpa using ho)) (Oper.wp_mono ?_ h1)
        rintro a' w' ⟨hb, v, rfl, hGi⟩
        refine .inl ⟨fun j hj => ?_, htrans _ _ _ hI.but hb, ?_, ?_, ?_, ?_, ?_⟩
        · rw [getD_set_ne false (by omega)]
          exact hhi j hj
        · cases o.dst <;> exact hI.defers
        · cases o.dst
          · exact hI.size
          · simpa [Act.put] using hI.size
        · intro j oj hj hl e he hbi
          rw [getD_setF hil]
          rcases (getD_setF hil).1 hl with rfl | hl
          · rw [ho] at hj; cases hj; exact .inr (hall e he hbi)
          · exact .inr (hI.closed j oj hj hl e he hbi)
        · intro j oj s hj hl hd
          rcases (getD_setF hil).1 hl with rfl | hl2
          · rw [ho] at hj; cases hj
            rw [hd, eval_sameF (by rw [hI.size]; exact hdst _ _ _ ho hd)]
            exact hGi
          · have hji : j ≠ i := fun e => by rw [e, hunF] at hl2; cases hl2
            have := hkeep _ _ _ _ hI.but (hI.done j oj s hj hl2 hd) hb
            cases hod : o.dst with
            | none => exact this
            | some d =>
              rw [eval_putF (fun e => by subst e; exact flow_once hsh ho hj hd hji hod)]
              exact this
        · intro s hfr
          have hso : o.dst ≠ some s := fun e => by
            have := hfr i o ho e
            rw [(getD_setF hil).2 (.inl rfl)] at this; cases this
          have h2 := hI.free s (fun j oj hj hd => by
            cases hl : listed.getD j false with
            | false => rfl
            | true => have := hfr j oj hj hd; rw [(getD_setF hil).2 (.inr hl)] at this; cases this)
          rw [← h2]
          cases hod : o.dst with
          | none => rfl
          | some d =>
            have : d ≠ s := fun e => hso (by rw [hod, e])
            simp [Act.put, Array.getElem?_setIfInBounds_ne this]
      · have hiem : i = m := by
          by_cases h : i = m
          · exact h
          · have h1 := waits_one (hpre i (by omega) (by omega)) hall'
            rw [hhi (i - 1) (by omega)] at h1
            cases h1
        subst hiem
        have hlist : ∀ d j, j < i → j ≠ late → i - j ≤ d → listed.getD j false = true := by
          intro d
          induction d with
          | zero => intro j h1 _ h2; omega
          | succ d ih =>
            intro j h1 hne h2
            obtain ⟨j', h3, h4, hne', h5⟩ := hsuc j h1 hne
            by_cases h6 : j' = i
            · subst h6; exact waits_one h5 hall'
            · exact waits_one h5 (fun o' ho' => hI.closed j' o' ho' (ih j' (by omega) hne' (by omega)))
        have hfr : (⟨frameF (l.take i) a0.tmps (fun s => a.eval (.tmp s)), a0.defers⟩ : Act) = a := frame_eqF hI.defers hI.size (fun s hs' => hI.free s (fun j oj hj hd => by
          by_cases hji : j < i
          · exact absurd hd (hs' j oj hji ((hlo j oj).1 hj))
          · exact hhi j (by omega)))
        cases hll : listed.getD late false with
        | true =>
          have hlist' : ∀ j, j < i → listed.getD j false = true := fun j hj => by
            by_cases hne : j = late
            · rw [hne]; exact hll
            · exact hlist i j hj hne (by omega)
          have hfin := hend (fun s => a.eval (.tmp s)) w hI.but (fun j oj s hji hj hd => hI.done j oj s ((hlo j oj).2 hj) (hlist' j hji) hd)
          rw [hfr, ← wpOpsIn_eqF (l.drop i) i (fun j => by simp)] at hfin
          rw [List.length_drop, show l.length - i = (l.length - (i + 1)) + 1 by omega, List.range'_succ, wpOpsIn_cons] at hfin
          refine wpOpIn_mono (fun a' w' h' => .inr (.inl ⟨i + 1, by omega, by omega, fun j => ?_, by rw [hsz]; exact h'⟩)) hfin
          rw [getD_setF hil]
          constructor
          · rintro (rfl | h)
            · omega
            · by_cases hji : j < i
              · omega
              · rw [hhi j (by omega)] at h; cases h
          · intro h
            by_cases hji : j = i
            · exact .inl hji
            · exact .inr (hlist' j (by omega))
        | false =>
          obtain ⟨ol, hol⟩ : ∃ ol, l[late]? = some ol := ⟨l[late], List.getElem?_eq_getElem (by omega)⟩
          have hfin := hend1 o ol ((hlo i o).1 ho) hol (fun s => a.eval (.tmp s)) w hI.but (fun j oj s hji hne hj hd => hI.done j oj s ((hlo j oj).2 hj) (hlist i j hji hne (by omega)) hd)
          have hdr : wpListIn (Fence.wide.inRound lp) n P l.toArray Q (l.drop (i + 1)) = wpOpsIn (Fence.wide.inRound lp) n P l.toArray Q (List.range' (i + 1) (l.toArray.size - (i + 1))) := by
            rw [← wpOpsIn_eqF (l.drop (i + 1)) (i + 1) (fun j => by simp), List.length_drop, hsz]
          have hop : wpListIn (Fence.wide.inRound lp) n P l.toArray Q (o :: ol :: l.drop (i + 1)) = wpOpIn (Fence.wide.inRound lp) n P l.toArray Q i (wpOpIn (Fence.wide.inRound lp) n P l.toArray Q late (wpOpsIn (Fence.wide.inRound lp) n P l.toArray Q (List.range' (i + 1) (l.toArray.size - (i + 1))))) := by
            rw [← hdr]
            have hol' : l.toArray[late]? = some ol := (hlo late ol).2 hol
            have h2 : wpOpIn (Fence.wide.inRound lp) n P l.toArray Q late (wpListIn (Fence.wide.inRound lp) n P l.toArray Q (l.drop (i + 1))) = wpListIn (Fence.wide.inRound lp) n P l.toArray Q (ol :: l.drop (i + 1)) := by
              funext a w
              simp only [wpListIn, wpOpIn, hol']
            rw [h2]
            funext a w
            simp only [wpOpIn, ho]
            rfl
          rw [hfr, hop] at hfin
          refine wpOpIn_mono (fun a' w' h' => .inr (.inr ⟨fun j => ?_, h'⟩)) hfin
          rw [getD_setF hil]
          constructor
          · rintro (rfl | h)
            · omega
            · by_cases hji : j < i
              · refine ⟨by omega, fun e => ?_⟩
                rw [e, hll] at h; cases h
              · rw [hhi j (by omega)] at h; cases h
          · rintro ⟨h, hne⟩
            by_cases hji : j = i
            · exact .inl hji
            · exact .inr (hlist i j (by omega) hne (by omega))
    · have hiek : i = k := by
        have h0 : ¬ i < k := fun h => by have := (hk3 i).2 h; rw [hunF] at this; cases this
        by_cases h : i = k
        · exact h
        · have h1 := waits_one (hpre i (by omega) (by omega)) hall'
          have := (hk3 (i - 1)).1 h1
          omega
      subst hiek
      rw [show l.toArray.size - i = (l.toArray.size - (i + 1)) + 1 by omega, List.range'_succ, wpOpsIn_cons] at hk4
      refine wpOpIn_mono (fun a' w' h' => .inr (.inl ⟨i + 1, by omega, by omega, fun j => ?_, h'⟩)) hk4
      rw [getD_setF hil, hk3]
      omega
    · have hnl : listed.getD late false ≠ true := fun h => ((hc3 late).1 h).2 rfl
      have hie : i = late := by
        by_cases h : i = late
        · exact h
        · exfalso
          have h1 : m < i := by
            have : ¬ (i ≤ m ∧ i ≠ late) := fun h2 => by have := (hc3 i).2 h2; rw [hunF] at this; cases this
            omega
          by_cases h2 : i = m + 1
          · exact hnl (waits_one (by rw [h2]; exact hwl) hall')
          · have h3 := (hc3 (i - 1)).1 (waits_one (hpre i h1 (by omega)) hall')
            omega
      subst hie
      refine wpOpIn_mono (fun a' w' h' => .inr (.inl ⟨m + 1, by omega, by omega, fun j => ?_, h'⟩)) hc4
      rw [getD_setF hil, hc3]
      omega
  · intro listed a w hs hI hr
    have hall : ∀ i, i < l.toArray.size → listed.getD i false = true := by
      intro i
      induction i using Nat.strongRecOn with
      | ind i ih =>
        intro hi
        cases hl : listed.getD i false with
        | true => rfl
        | false =>
          exfalso
          have hmem : i ∈ Region.ready .any l.toArray listed := by
            refine mem_ready.2 ⟨?_, l.toArray[i], Array.getElem?_eq_getElem hi, fun e he hb => ?_⟩
            · have hlt : i < listed.size := by omega
              rw [Array.getD_eq_getD_getElem?, Array.getElem?_eq_getElem hlt] at hl ⊢
              simpa using hl
            · have := flow_lex hsh (Array.getElem?_eq_getElem hi) e he hb
              exact ih e.on this (by omega)
          rw [hr] at hmem
          cases hmem
    rcases hI with ⟨hhi, _⟩ | ⟨k, hk1, hk2, hk3, hk4⟩ | ⟨hc3, _⟩
    · have h1 := hall m (by omega)
      rw [hhi m (Nat.le_refl _)] at h1
      cases h1
    · have hke : k = l.toArray.size := by
        by_cases h : k < l.toArray.size
        · have := (hk3 k).1 (hall k h); omega
        · omega
      rw [hke, Nat.sub_self] at hk4
      exact hk4
    · exact absurd rfl ((hc3 late).1 (hall late (by omega))).2
  · refine .inl ⟨fun i _ => ?_, hdraw, rfl, rfl, ?_, ?_, fun s _ => rfl⟩
    · by_cases h : i < l.toArray.size
      · have h' : i < l.length := by omega
        simp [Array.getD, h']
      · exact getD_out (by simpa using h)
    · intro j oj hj hl
      have hj' := (Array.getElem?_eq_some_iff.1 hj).1
      have hj2 : j < l.length := by omega
      simp [hj2] at hl
    · intro j oj s hj hl
      have hj' := (Array.getElem?_eq_some_iff.1 hj).1
      have hj2 : j < l.length := by omega
      simp [hj2] at hl
end
end Go.Proofs.Ytmbmmcippglfoaa.M
namespace Go.Proofs.Ytmbmmcippglfoaa.M
open Go.RowKit
set_option linter.unusedVariables false
set_option linter.unusedSectionVars false
set_option linter.unusedSimpArgs false
section
variable {P : Program} {ops : Array Oper} {Q : Exit → Act → World → Prop}
theorem wpOpG {i : Nat} {o : Oper} {a : Act} {w : World} {K N : Act → World → Prop} (ho : ops[i]? = some o) (hN : ∀ a w, N a w → K a w)
    (h : if Region.wanted o (yielded ops a.tmps) = true then o.wp P a w N Q else N (a.put o.dst undef) w) : wpOp P ops Q i K a w := by
  unfold wpOp
  simp only [ho]
  split
  · rename_i hw
    rw [if_pos hw] at h
    exact .inl (Oper.wp_mono hN h)
  · rename_i hw
    rw [if_neg hw] at h
    exact hN _ _ h
/-- For the kernel: each waits on earlier ones alone; no temporary is written twice. -/
def flowBG (ops : Array Oper) : Bool :=
  (List.range ops.size).all fun i => match ops[i]? with
    | none => false
    | some o => o.after.all (fun e => !Region.binds .any e || decide (e.on < i)) &&
      (List.range ops.size).all fun j => match ops[j]? with
        | none => false
        | some oj => match oj.dst with
          | none => true
          | some d => j == i || o.dst != some d
theorem flow_lexG (h : flowBG ops = true) {i : Nat} {o : Oper} (ho : ops[i]? = some o) : ∀ e ∈ o.after, Region.binds .any e = true → e.on < i := by
  have hi := (Array.getElem?_eq_some_iff.1 ho).1
  have := List.all_eq_true.1 h i (by simpa using hi)
  simp only [ho, Bool.and_eq_true] at this
  intro e he hb
  have h2 := Array.all_eq_true_iff_forall_mem.1 this.1 e he
  simpa [hb] using h2
theorem flow_onceG (h : flowBG ops = true) {i j : Nat} {o oj : Oper} (ho : ops[i]? = some o) (hoj : ops[j]? = some oj) {d : Tmp} (hd : oj.dst = some d) (hne : j ≠ i) : o.dst ≠ some d := by
  have hi := (Array.getElem?_eq_some_iff.1 ho).1
  have hj := (Array.getElem?_eq_some_iff.1 hoj).1
  have := List.all_eq_true.1 h i (by simpa using hi)
  simp only [ho, Bool.and_eq_true] at this
  have h2 := List.all_eq_true.1 this.2 j (by simpa using hj)
  simp only [hoj, hd, Bool.or_eq_true, beq_iff_eq, bne_iff_ne] at h2
  exact h2.resolve_left hne
/-- What is to be shown of each operation. -/
def FlowLG (P : Program) (ops : Array Oper) (Q : Exit → Act → World → Prop) (R : World → World → Prop) (G : Nat → Value → World → Prop) (w0 : World) : Nat → List Oper → List (List (Nat × Tmp)) → List (List (Tmp × Value)) → Prop
  | _, [], _, _ => True
  | i, o :: os, d :: ds, f :: fs => (∀ (a : Act) (w : World), R w0 w → KnowF G a w d → FreeF a f → if Region.wanted o (yielded ops a.tmps) = true then o.wp P a w (fun a' w' => R w w' ∧ ∃ v, a' = a.put o.dst v ∧ G i v w') Q else R w w ∧ ∃ v, a.put o.dst undef = a.put o.dst v ∧ G i v w) ∧ FlowLG P ops Q R G w0 (i + 1) os ds fs
  | _, _ :: _, _, _ => False
theorem flowLG_at {R : World → World → Prop} {G : Nat → Value → World → Prop} {w0 : World} : ∀ {os : List Oper} {ds : List (List (Nat × Tmp))} {fs : List (List (Tmp × Value))} {k : Nat}, FlowLG P ops Q R G w0 k os ds fs → ∀ (i : Nat) (o : Oper), os[i]? = some o →
    ∃ d f, ds[i]? = some d ∧ fs[i]? = some f ∧ ∀ (a : Act) (w : World), R w0 w → KnowF G a w d → FreeF a f → if Region.wanted o (yielded ops a.tmps) = true then o.wp P a w (fun a' w' => R w w' ∧ ∃ v, a' = a.put o.dst v ∧ G (k + i) v w') Q else R w w ∧ ∃ v, a.put o.dst undef = a.put o.dst v ∧ G (k + i) v w
  | [], _, _, _, _, i, o, ho => by simp at ho
  | x :: os, [], _, _, h, i, o, ho => by simp [FlowLG] at h
  | x :: os, d :: ds, [], _, h, i, o, ho => by simp [FlowLG] at h
  | x :: os, d :: ds, f :: fs, k, h, 0, o, ho => by
    simp only [List.getElem?_cons_zero, Option.some.injEq] at ho
    subst ho
    exact ⟨d, f, rfl, rfl, h.1⟩
  | x :: os, d :: ds, f :: fs, k, h, i + 1, o, ho => by
    simp only [List.getElem?_cons_succ] at ho
    obtain ⟨d', f', h1, h2, h3⟩ := flowLG_at h.2 i o ho
    refine ⟨d', f', by simpa using h1, by simpa using h2, ?_⟩
    rw [show k + (i + 1) = k + 1 + i by omega]
    exact h3
theorem wp_region_flowG {id : Nat} {l : List Oper} {a0 : Act} {w0 : World} (m : Nat) (hml : m < l.length) (hm : P.follows .mixedOrders = true) (R : World → World → Prop) (htrans : ∀ a b c, R a b → R b c → R a c) (hdraw : R w0 { w0 with drawn := w0.drawn + 1 })
    (G : Nat → Value → World → Prop) (deps : List (List (Nat × Tmp))) (frees : List (List (Tmp × Value))) (hsh : flowBG l.toArray = true) (htl : tailB l.toArray m = true) (hkn : knowB l.toArray deps (frees.map (·.map (·.1))) = true)
    (hdst : (l.toArray.all fun o => match o.dst with | none => true | some s => decide (s < a0.tmps.size)) = true)
    (hfreeA : FreeA a0 frees)
    (hkeep : ∀ i v w w', R w0 w → G i v w → R w w' → G i v w')
    (hops : FlowLG P l.toArray Q R G w0 0 (l.take m) deps frees)
    (hend : ∀ (f : Tmp → Value) (w : World), R w0 w → (∀ (i : Nat) (o : Oper) (s : Tmp), i < m → l[i]? = some o → o.dst = some s → G i (f s) w) → wpList P l.toArray Q (l.drop m) ⟨frameF (l.take m) a0.tmps f, a0.defers⟩ w) :
    (Code.region id l.toArray true).wp P Q a0 w0 := by
  have hsz : l.toArray.size = l.length := by simp
  have hfree := freeA_at hfreeA
  replace hdst : ∀ (i : Nat) (o : Oper) (s : Tmp), l.toArray[i]? = some o → o.dst = some s → s < a0.tmps.size := fun i o s ho hd => by
    have := Array.all_eq_true_iff_forall_mem.1 hdst o (Array.mem_of_getElem? ho)
    simpa [hd] using this
  have hlo : ∀ (i : Nat) (o : Oper), l.toArray[i]? = some o ↔ l[i]? = some o := fun i o => by simp
  simp only [tailB, Bool.and_eq_true] at htl
  have hsuc : ∀ i, i < m → ∃ j, i < j ∧ j ≤ m ∧ waitsB l.toArray 1 j i = true := fun i hi => by
    have h1 := List.all_eq_true.1 htl.1 i (by simpa using hi)
    obtain ⟨j, hj, h2⟩ := List.any_eq_true.1 h1
    simp only [Bool.and_eq_true, decide_eq_true_eq] at h2
    have hj' : j < m + 1 := by simpa using hj
    exact ⟨j, h2.1, by omega, h2.2⟩
  have hpre : ∀ i, m < i → i < l.length → waitsB l.toArray 1 i (i - 1) = true := fun i h1 h2 => by
    have h3 := List.all_eq_true.1 htl.2 i (by simpa using h2)
    simp only [Bool.or_eq_true, decide_eq_true_eq] at h3
    exact h3.resolve_left (by omega)
  refine wp_region_any hm ?_
  refine wpAny_invF (InvT P l.toArray Q R G w0 a0 m) ?_ ?_ _ _ _ _ (by simp) (by simp) ?_
  · intro listed a w i hs hI hi
    obtain ⟨hun, o, ho, hall⟩ := mem_ready.1 hi
    have hio := (Array.getElem?_eq_some_iff.1 ho).1
    have hil : i < listed.size := by omega
    have hunF : listed.getD i false = false := by
      rw [Array.getD_eq_getD_getElem?, Array.getElem?_eq_getElem hil] at hun ⊢
      simpa using hun
    have hall' : ∀ o', l.toArray[i]? = some o' → ∀ e ∈ o'.after, Region.binds .any e = true → listed.getD e.on false = true := fun o' ho' => by rw [ho] at ho'; cases ho'; exact hall
    rcases hI with ⟨hhi, hI⟩ | ⟨k, hk1, hk2, hk3, hk4⟩
    · by_cases him : i < m
      · obtain ⟨dd, ff, hdd, hff, h1⟩ := flowLG_at hops i o (by rw [List.getElem?_take, if_pos him]; simpa using ho)
        simp only [knowB, Bool.and_eq_true] at hkn
        rw [Nat.zero_add] at h1
        replace h1 := h1 a w hI.but
          (knowF_of fun p hp => by
            have hm : (dd, i) ∈ deps.zipIdx := by
              rw [List.mem_zipIdx_iff_getElem?]
              simpa using hdd
            have h2 := List.all_eq_true.1 (List.all_eq_true.1 hkn.1 _ hm) p hp
            simp only [Bool.and_eq_true, beq_iff_eq] at h2
            obtain ⟨oj, hj, hd⟩ := Option.bind_eq_some_iff.1 h2.2
            exact hI.done p.1 oj p.2 hj (waits_listed hI.closed 2 i p.1 hall' h2.1) hd)
          (freeF_of fun p hp => by
            have hmf : (ff.map (·.1), i) ∈ (frees.map (·.map (·.1))).zipIdx := by
              rw [List.mem_zipIdx_iff_getElem?]
              simp [hff]
            have hfr := List.all_eq_true.1 (List.all_eq_true.1 hkn.2 _ hmf) p.1 (List.mem_map.2 ⟨p, hp, rfl⟩)
            have := hI.free p.1 (fun j oj hj hd => by
              cases hl : listed.getD j false with
              | false => rfl
              | true =>
                exfalso
                have hm : (oj, j) ∈ l.toArray.toList.zipIdx := by
                  rw [List.mem_zipIdx_iff_getElem?]
                  simpa using hj
                have h2 := List.all_eq_true.1 hfr _ hm
                simp only [hd, bne_self_eq_false, Bool.false_or, Bool.or_eq_true, beq_iff_eq] at h2
                rcases h2 with rfl | h2
                · rw [hunF] at hl; cases hl
                · have := waits_listed hI.closed 3 j i (fun o' ho' => hI.closed j o' ho' hl) h2
                  rw [hunF] at this; cases this)
            rw [← hfree ff (List.mem_of_getElem? hff) p hp]
            simp only [Act.eval, Array.getD_eq_getD_getElem?]
            rw [this])
        refine wpOpG (N := fun a' w' => R w w' ∧ ∃ v, a' = a.put o.dst v ∧ G i v w') ho ?_ h1
        rintro a' w' ⟨hb, v, rfl, hGi⟩
        refine .inl ⟨fun j hj => ?_, htrans _ _ _ hI.but hb, ?_, ?_, ?_, ?_, ?_⟩
        · rw [getD_set_ne false (by omega)]
          exact hhi j hj
        · cases o.dst <;> exact hI.defers
        · cases o.dst
          · exact hI.size
          · simpa [Act.put] using hI.size
        · intro j oj hj hl e he hbi
          rw [getD_setF hil]
          rcases (getD_setF hil).1 hl with rfl | hl
          · rw [ho] at hj; cases hj; exact .inr (hall e he hbi)
          · exact .inr (hI.closed j oj hj hl e he hbi)
        · intro j oj s hj hl hd
          rcases (getD_setF hil).1 hl with rfl | hl2
          · rw [ho] at hj; cases hj
            rw [hd, eval_sameF (by rw [hI.size]; exact hdst _ _ _ ho hd)]
            exact hGi
          · have hji : j ≠ i := fun e => by rw [e, hunF] at hl2; cases hl2
            have := hkeep _ _ _ _ hI.but (hI.done j oj s hj hl2 hd) hb
            cases hod : o.dst with
            | none => exact this
            | some d =>
              rw [eval_putF (fun e => by subst e; exact flow_onceG hsh ho hj hd hji hod)]
              exact this
        · intro s hfr
          have hso : o.dst ≠ some s := fun e => by
            have := hfr i o ho e
            rw [(getD_setF hil).2 (.inl rfl)] at this; cases this
          have h2 := hI.free s (fun j oj hj hd => by
            cases hl : listed.getD j false with
            | false => rfl
            | true => have := hfr j oj hj hd; rw [(getD_setF hil).2 (.inr hl)] at this; cases this)
          rw [← h2]
          cases hod : o.dst with
          | none => rfl
          | some d =>
            have : d ≠ s := fun e => hso (by rw [hod, e])
            simp [Act.put, Array.getElem?_setIfInBounds_ne this]
      · have hiem : i = m := by
          by_cases h : i = m
          · exact h
          · have h1 := waits_one (hpre i (by omega) (by omega)) hall'
            rw [hhi (i - 1) (by omega)] at h1
            cases h1
        subst hiem
        have hlist : ∀ d j, j < i → i - j ≤ d → listed.getD j false = true := by
          intro d
          induction d with
          | zero => intro j h1 h2; omega
          | succ d ih =>
            intro j h1 h2
            obtain ⟨j', h3, h4, h5⟩ := hsuc j h1
            by_cases h6 : j' = i
            · subst h6; exact waits_one h5 hall'
            · exact waits_one h5 (fun o' ho' => hI.closed j' o' ho' (ih j' (by omega) (by omega)))
        have hfr : (⟨frameF (l.take i) a0.tmps (fun s => a.eval (.tmp s)), a0.defers⟩ : Act) = a := frame_eqF hI.defers hI.size (fun s hs' => hI.free s (fun j oj hj hd => by
          by_cases hji : j < i
          · exact absurd hd (hs' j oj hji ((hlo j oj).1 hj))
          · exact hhi j (by omega)))
        have hfin := hend (fun s => a.eval (.tmp s)) w hI.but (fun j oj s hji hj hd => hI.done j oj s ((hlo j oj).2 hj) (hlist i j hji (by omega)) hd)
        rw [hfr, ← wpOps_eq_wpList (l.drop i) i (fun j => by simp)] at hfin
        rw [List.length_drop, show l.length - i = (l.length - (i + 1)) + 1 by omega, List.range'_succ, wpOps_cons] at hfin
        refine wpOp_mono (fun a' w' h' => .inr ⟨i + 1, by omega, by omega, fun j => ?_, by rw [hsz]; exact h'⟩) hfin
        rw [getD_setF hil]
        constructor
        · rintro (rfl | h)
          · omega
          · by_cases hji : j < i
            · omega
            · rw [hhi j (by omega)] at h; cases h
        · intro h
          by_cases hji : j = i
          · exact .inl hji
          · exact .inr (hlist i j (by omega) (by omega))
    · have hiek : i = k := by
        have h0 : ¬ i < k := fun h => by have := (hk3 i).2 h; rw [hunF] at this; cases this
        by_cases h : i = k
        · exact h
        · have h1 := waits_one (hpre i (by omega) (by omega)) hall'
          have := (hk3 (i - 1)).1 h1
          omega
      subst hiek
      rw [show l.toArray.size - i = (l.toArray.size - (i + 1)) + 1 by omega, List.range'_succ, wpOps_cons] at hk4
      refine wpOp_mono (fun a' w' h' => .inr ⟨i + 1, by omega, by omega, fun j => ?_, h'⟩) hk4
      rw [getD_setF hil, hk3]
      omega
  · intro listed a w hs hI hr
    have hall : ∀ i, i < l.toArray.size → listed.getD i false = true := by
      intro i
      induction i using Nat.strongRecOn with
      | ind i ih =>
        intro hi
        cases hl : listed.getD i false with
        | true => rfl
        | false =>
          exfalso
          have hmem : i ∈ Region.ready .any l.toArray listed := by
            refine mem_ready.2 ⟨?_, l.toArray[i], Array.getElem?_eq_getElem hi, fun e he hb => ?_⟩
            · have hlt : i < listed.size := by omega
              rw [Array.getD_eq_getD_getElem?, Array.getElem?_eq_getElem hlt] at hl ⊢
              simpa using hl
            · have := flow_lexG hsh (Array.getElem?_eq_getElem hi) e he hb
              exact ih e.on this (by omega)
          rw [hr] at hmem
          cases hmem
    rcases hI with ⟨hhi, _⟩ | ⟨k, hk1, hk2, hk3, hk4⟩
    · have h1 := hall m (by omega)
      rw [hhi m (Nat.le_refl _)] at h1
      cases h1
    · have hke : k = l.toArray.size := by
        by_cases h : k < l.toArray.size
        · have := (hk3 k).1 (hall k h); omega
        · omega
      rw [hke, Nat.sub_self] at hk4
      exact hk4
  · refine .inl ⟨fun i _ => ?_, hdraw, rfl, rfl, ?_, ?_, fun s _ => rfl⟩
    · by_cases h : i < l.toArray.size
      · have h' : i < l.length := by omega
        simp [Array.getD, h']
      · exact getD_out (by simpa using h)
    · intro j oj hj hl
      have hj' := (Array.getElem?_eq_some_iff.1 hj).1
      have hj2 : j < l.length := by omega
      simp [hj2] at hl
    · intro j oj s hj hl
      have hj' := (Array.getElem?_eq_some_iff.1 hj).1
      have hj2 : j < l.length := by omega
      simp [hj2] at hl
/-- The frame behind the region, by a list that tells which places were written (cheap for the kernel). -/
def frameP : List (Option Tmp) → List Value → (Tmp → Value) → List Value
  | [], _, _ => []
  | _ :: _, [], _ => []
  | none :: ps, v :: t, f => v :: frameP ps t f
  | some s :: ps, _ :: t, f => f s :: frameP ps t f
def patB (l : List Oper) : Nat → List (Option Tmp) → Bool
  | _, [] => true
  | k, none :: ps => !hasF l k && patB l (k + 1) ps
  | k, some s :: ps => hasF l k && Nat.beq s k && patB l (k + 1) ps
theorem frameL_pat {l : List Oper} {f : Tmp → Value} : ∀ {pat : List (Option Tmp)} {t : List Value} {k : Nat}, patB l k pat = true → pat.length = t.length → frameL l f k t = frameP pat t f
  | [], [], _, _, _ => rfl
  | [], _ :: _, _, _, h => by cases h
  | _ :: _, [], _, _, h => by cases h
  | none :: ps, v :: t, k, h, hl => by
    simp only [patB, Bool.and_eq_true, Bool.not_eq_true'] at h
    unfold frameL frameP
    rw [frameL_pat h.2 (by simpa using hl)]
    simp [h.1]
  | some s :: ps, v :: t, k, h, hl => by
    simp only [patB, Bool.and_eq_true] at h
    unfold frameL frameP
    rw [frameL_pat h.2 (by simpa using hl), Nat.eq_of_beq_eq_true h.1.2]
    simp [h.1.1]
theorem frameF_pat {l : List Oper} {t : Array Value} {f : Tmp → Value} {pat : List (Option Tmp)} (h : patB l 0 pat = true) (hl : pat.length = t.toList.length) : frameF l t f = (frameP pat t.toList f).toArray := by
  unfold frameF
  rw [frameL_pat h hl]
theorem wp_region_flowS {id : Nat} {l : List Oper} {a0 : Act} {w0 : World} (m : Nat) (hml : m < l.length) (hm : P.follows .mixedOrders = true) (R : World → World → Prop) (htrans : ∀ a b c, R a b → R b c → R a c) (hdraw : R w0 { w0 with drawn := w0.drawn + 1 })
    (G : Nat → Value → World → Prop) (deps : List (List (Nat × Tmp))) (frees : List (List (Tmp × Value))) (hsh : flowBG l.toArray = true) (htl : tailB l.toArray m = true) (hkn : knowB l.toArray deps (frees.map (·.map (·.1))) = true)
    (hdst : (l.toArray.all fun o => match o.dst with | none => true | some s => decide (s < a0.tmps.size)) = true)
    (hfreeA : FreeA a0 frees)
    (hkeep : ∀ i v w w', R w0 w → G i v w → R w w' → G i v w')
    (pat : List (Option Tmp)) (hpat : patB (l.take m) 0 pat = true) (hplen : pat.length = a0.tmps.toList.length)
    (hops : FlowLG P l.toArray Q R G w0 0 (l.take m) deps frees)
    (hend : ∀ (f : Tmp → Value) (w : World), R w0 w → (∀ (i : Nat) (o : Oper) (s : Tmp), i < m → l[i]? = some o → o.dst = some s → G i (f s) w) → wpList P l.toArray Q (l.drop m) ⟨(frameP pat a0.tmps.toList f).toArray, a0.defers⟩ w) :
    (Code.region id l.toArray true).wp P Q a0 w0 := 
  wp_region_flowG m hml hm R htrans hdraw G deps frees hsh htl hkn hdst hfreeA hkeep hops (fun f w h1 h2 => by rw [frameF_pat hpat hplen]; exact hend f w h1 h2)
/-- What comes behind, under one name: a region's own steps do not carry it. -/
theorem wp_far {c : Code} {a : Act} {w : World} (h : ∀ D : Act → World → Prop, (∀ a w, Q .normal a w → D a w) → c.wp P (Exit.then D (fun _ _ _ => False)) a w) : c.wp P Q a w :=
  Code.wp_mono (fun e a w h => by cases e <;> first | exact h | exact h.elim) (h (fun a w => Q .normal a w) (fun _ _ h => h))
/-- All values are known. -/
def GV (vals : List Value) (i : Nat) (v : Value) (_ : World) : Prop := ∀ u, vals[i]? = some u → v = u
theorem GV.of {vals : List Value} {i : Nat} {v : Value} {w : World} (h : vals[i]? = some v) : GV vals i v w := fun u hu => by rw [h] at hu; cases hu; rfl
theorem GV.ev {vals : List Value} {i s : Nat} {a : Act} {w : World} {v : Value} (h : GV vals i (a.eval (.tmp s)) w) (hv : vals[i]? = some v) : a.tmps[s]?.getD undef = v := by
  rw [← h v hv]; simp [Act.eval]
theorem GV.eval {vals : List Value} {i s : Nat} {a : Act} {w : World} {v : Value} (h : GV vals i (a.eval (.tmp s)) w) (hv : vals[i]? = some v) : a.eval (.tmp s) = v := h v hv
theorem freeF_ev {s : Nat} {a : Act} {v : Value} (h : a.eval (.tmp s) = v) : a.tmps[s]?.getD undef = v := by rw [← h]; simp [Act.eval]
theorem wanted_at {o : Oper} {a : Act} {j : Nat} {b b' : Bool} {s : Tmp} (hg : o.guard = some (j, b)) (hd : (ops[j]?).bind (·.dst) = some s) (ht : a.eval (.tmp s) = .bool b') : Region.wanted o (yielded ops a.tmps) = (b' == b) := by
  have h : a.tmps[s]? = some (.bool b') := by
    simp only [Act.eval, Array.getD_eq_getD_getElem?] at ht
    cases h : a.tmps[s]? with
    | none => rw [h] at ht; cases ht
    | some v => rw [h] at ht; simp only [Option.getD_some] at ht; rw [ht]
  unfold Region.wanted yielded
  rw [hg]
  dsimp only
  rw [hd]
  simp only [Option.bind_some, h]
  cases b' <;> cases b <;> rfl
/-- A guarded operation that is wanted. -/
theorem flow_on {R : World → World → Prop} {G : Nat → Value → World → Prop} {i : Nat} {o : Oper} {a : Act} {w : World} (hw : Region.wanted o (yielded ops a.tmps) = true)
    (h : o.wp P a w (fun a' w' => R w w' ∧ ∃ v, a' = a.put o.dst v ∧ G i v w') Q) :
    if Region.wanted o (yielded ops a.tmps) = true then o.wp P a w (fun a' w' => R w w' ∧ ∃ v, a' = a.put o.dst v ∧ G i v w') Q else R w w ∧ ∃ v, a.put o.dst undef = a.put o.dst v ∧ G i v w := by
  rw [if_pos hw]; exact h
/-- One that is not. -/
theorem flow_off {R : World → World → Prop} {G : Nat → Value → World → Prop} {i : Nat} {o : Oper} {a : Act} {w : World} (hw : Region.wanted o (yielded ops a.tmps) = false) (hR : R w w) (hG : G i undef w) :
    if Region.wanted o (yielded ops a.tmps) = true then o.wp P a w (fun a' w' => R w w' ∧ ∃ v, a' = a.put o.dst v ∧ G i v w') Q else R w w ∧ ∃ v, a.put o.dst undef = a.put o.dst v ∧ G i v w := by
  rw [if_neg (by rw [hw]; decide)]; exact ⟨hR, _, rfl, hG⟩
end
end Go.Proofs.Ytmbmmcippglfoaa.M
namespace Go.Proofs.Ytmbmmcippglfoaa.M
open Go.RowKit
set_option linter.unusedVariables false
set_option linter.unusedSectionVars false
set_option linter.unusedSimpArgs false
section
variable {P : Program} {ops : Array Oper} {Q : Exit → Act → World → Prop}
theorem invF_step {R : World → World → Prop} {G : Nat → Value → World → Prop} {w0 w w' : World} {a0 a : Act} {listed : Array Bool} {i : Nat} {o : Oper} {v : Value}
    (hsh : flowB ops = true) (hI : InvF ops R G w0 a0 listed a w) (ho : ops[i]? = some o) (hunF : listed.getD i false = false) (hil : i < listed.size)
    (hall : ∀ e ∈ o.after, Region.binds .any e = true → listed.getD e.on false = true)
    (hdst : ∀ s, o.dst = some s → s < a0.tmps.size) (hR : R w0 w') (hkeep : ∀ j u, G j u w → G j u w') (hG : ∀ s, o.dst = some s → G i v w') :
    InvF ops R G w0 a0 (listed.setIfInBounds i true) (a.put o.dst v) w' := by
  refine ⟨hR, ?_, ?_, ?_, ?_, ?_⟩
  · cases o.dst <;> exact hI.defers
  · cases o.dst
    · exact hI.size
    · simpa [Act.put] using hI.size
  · intro j oj hj hl e he hbi
    rw [getD_setF hil]
    rcases (getD_setF hil).1 hl with rfl | hl
    · rw [ho] at hj; cases hj; exact .inr (hall e he hbi)
    · exact .inr (hI.closed j oj hj hl e he hbi)
  · intro j oj s hj hl hd
    rcases (getD_setF hil).1 hl with rfl | hl2
    · rw [ho] at hj; cases hj
      rw [hd, eval_sameF (by rw [hI.size]; exact hdst _ hd)]
      exact hG s hd
    · have hji : j ≠ i := fun e => by rw [e, hunF] at hl2; cases hl2
      have := hkeep _ _ (hI.done j oj s hj hl2 hd)
      cases hod : o.dst with
      | none => exact this
      | some d =>
        rw [eval_putF (fun e => by subst e; exact flow_once hsh ho hj hd hji hod)]
        exact this
  · intro s hfr
    have hso : o.dst ≠ some s := fun e => by
      have := hfr i o ho e
      rw [(getD_setF hil).2 (.inl rfl)] at this; cases this
    have h2 := hI.free s (fun j oj hj hd => by
      cases hl : listed.getD j false with
      | false => rfl
      | true => have := hfr j oj hj hd; rw [(getD_setF hil).2 (.inr hl)] at this; cases this)
    rw [← h2]
    cases hod : o.dst with
    | none => rfl
    | some d =>
      have : d ≠ s := fun e => hso (by rw [hod, e])
      simp [Act.put, Array.getElem?_setIfInBounds_ne this]
theorem getD_rep (n j : Nat) : (Array.replicate n false).getD j false = false := by
  unfold Array.getD
  split <;> simp
def ptr0 (k : Nat) : Value := .pointer (some ⟨k, 0, none⟩)
/-- What is so of one of the two blocks. -/
def BlkP (w0 : World) (X : Tmp) (k : Nat) (cs : Array Value) (t : TypeId) (a : Act) (w : World) : Prop := a.eval (.tmp X) = ptr0 k ∧ w0.heap.size ≤ k ∧ w.heap[k]? = some (.cells cs t)
structure InvP (ops : Array Oper) (G : Nat → Value → World → Prop) (w0 : World) (a0 : Act) (m : Nat) (A B : Tmp) (zs cx cy : Array Value) (t : TypeId) (listed : Array Bool) (a : Act) (w : World) : Prop where
  f : InvF ops (But []) G w0 a0 listed a w
  pr : ∃ kA kB, (listed.getD m false = true → BlkP w0 A kA (if listed.getD (m + 2) false then cx else zs) t a w) ∧ (listed.getD (m + 1) false = true → BlkP w0 B kB (if listed.getD (m + 3) false then cy else zs) t a w) ∧ (listed.getD m false = true → listed.getD (m + 1) false = true → kA ≠ kB)
theorem getD_set_other {listed : Array Bool} {i j : Nat} (h : j ≠ i) : (listed.setIfInBounds i true).getD j false = listed.getD j false := getD_set_ne false (Ne.symm h)
theorem BlkP.step {w0 w w' : World} {X : Tmp} {k : Nat} {cs : Array Value} {t : TypeId} {a : Act} {v : Value} {o : Oper} {L : List Nat} (h : BlkP w0 X k cs t a w) (hd : o.dst ≠ some X) (hb : But L w w') (hL : k ∉ L) : BlkP w0 X k cs t (a.put o.dst v) w' := by
  refine ⟨?_, h.2.1, hb.heap h.2.2 hL⟩
  cases hod : o.dst with
  | none => exact h.1
  | some d =>
    rw [eval_putF (fun e => by subst e; exact hd hod)]
    exact h.1
theorem wp_region_pair {id : Nat} {l : List Oper} {a0 : Act} {w0 : World} (m : Nat) (hlen : l.length = m + 5) (hm : P.follows .mixedOrders = true)
    (vals : List Value) (deps : List (List (Nat × Tmp))) (frees : List (List (Tmp × Value))) (hsh : flowB l.toArray = true) (hkn : knowB l.toArray deps (frees.map (·.map (·.1))) = true)
    (hdst : (l.toArray.all fun o => match o.dst with | none => true | some s => decide (s < a0.tmps.size)) = true)
    (hfreeA : FreeA a0 frees)
    (hops : FlowL P Q (But []) (GV vals) w0 0 (l.take m) deps frees)
    (pat : List (Option Tmp)) (hpat : patB l 0 pat = true) (hplen : pat.length = a0.tmps.toList.length)
    {A B c sx sy sz : Tmp} {jx jy jz : Nat} {oA oB sA sB oc : Oper} {zs cx cy : Array Value} {t : TypeId} {vx vy vz : Value}
    (hA : l[m]? = some oA) (dA : oA.dst = some A) (hB : l[m + 1]? = some oB) (dB : oB.dst = some B) (hsA : l[m + 2]? = some sA) (dsA : sA.dst = none) (hsB : l[m + 3]? = some sB) (dsB : sB.dst = none) (hc : l[m + 4]? = some oc) (dc : oc.dst = some c)
    (hwA : waitsB l.toArray 2 (m + 2) m = true) (hwB : waitsB l.toArray 2 (m + 3) (m + 1) = true)
    (hwx : (waitsB l.toArray 2 (m + 2) jx && ((l.toArray[jx]?).bind (·.dst) == some sx) && decide (jx < m)) = true) (hvx : vals[jx]? = some vx)
    (hwy : (waitsB l.toArray 2 (m + 3) jy && ((l.toArray[jy]?).bind (·.dst) == some sy) && decide (jy < m)) = true) (hvy : vals[jy]? = some vy)
    (hwz : (waitsB l.toArray 2 (m + 4) jz && ((l.toArray[jz]?).bind (·.dst) == some sz) && decide (jz < m)) = true) (hvz : vals[jz]? = some vz)
    (opA : ∀ a w, oA.wp P a w (fun a' w' => a' = a.put oA.dst (ptr0 w.heap.size) ∧ w' = w.alloc (.cells zs t)) Q)
    (opB : ∀ a w, oB.wp P a w (fun a' w' => a' = a.put oB.dst (ptr0 w.heap.size) ∧ w' = w.alloc (.cells zs t)) Q)
    (osA : ∀ a w k, a.tmps[A]?.getD undef = ptr0 k → a.tmps[sx]?.getD undef = vx → w.heap[k]? = some (.cells zs t) → sA.wp P a w (fun a' w' => (∃ v, a' = a.put sA.dst v) ∧ But [k] w w' ∧ w'.heap[k]? = some (.cells cx t)) Q)
    (osB : ∀ a w k, a.tmps[B]?.getD undef = ptr0 k → a.tmps[sy]?.getD undef = vy → w.heap[k]? = some (.cells zs t) → sB.wp P a w (fun a' w' => (∃ v, a' = a.put sB.dst v) ∧ But [k] w w' ∧ w'.heap[k]? = some (.cells cy t)) Q)
    (ooc : ∀ a w, a.tmps[sz]?.getD undef = vz → oc.wp P a w (fun a' w' => a' = a.put oc.dst vz ∧ w' = w) Q)
    (hend : ∀ (f : Tmp → Value) (w : World) (kA kB : Nat), But [] w0 w → f A = ptr0 kA → f B = ptr0 kB → f c = vz → w0.heap.size ≤ kA → w0.heap.size ≤ kB → kA ≠ kB → w.heap[kA]? = some (.cells cx t) → w.heap[kB]? = some (.cells cy t) → Q .normal ⟨(frameP pat a0.tmps.toList f).toArray, a0.defers⟩ w) :
    (Code.region id l.toArray true).wp P Q a0 w0 := by
  have hsz : l.toArray.size = l.length := by simp
  have hfree := freeA_at hfreeA
  replace hdst : ∀ (i : Nat) (o : Oper) (s : Tmp), l.toArray[i]? = some o → o.dst = some s → s < a0.tmps.size := fun i o s ho hd => by
    have := Array.all_eq_true_iff_forall_mem.1 hdst o (Array.mem_of_getElem? ho)
    simpa [hd] using this
  have lo : ∀ {i : Nat} {o : Oper}, l[i]? = some o → l.toArray[i]? = some o := fun {i o} h => by simpa using h
  -- what all temporaries hold
  let G : Nat → Value → World → Prop := fun i v _ => (i < m → ∀ u, vals[i]? = some u → v = u) ∧ (i = m + 4 → v = vz)
  have hAB : A ≠ B := fun e => flow_once hsh (lo hA) (lo hB) (e ▸ dB) (by omega) dA
  refine wp_region_any hm ?_
  refine wpAny_invF (InvP l.toArray G w0 a0 m A B zs cx cy t) ?_ ?_ _ _ _ _ (by simp) (by simp) ?_
  · intro listed a w i hs hI hi
    obtain ⟨hun, o, ho, hall⟩ := mem_ready.1 hi
    have hio := (Array.getElem?_eq_some_iff.1 ho).1
    have hil : i < listed.size := by omega
    have hunF : listed.getD i false = false := by
      rw [Array.getD_eq_getD_getElem?, Array.getElem?_eq_getElem hil] at hun ⊢
      simpa using hun
    have hall' : ∀ o', l.toArray[i]? = some o' → ∀ e ∈ o'.after, Region.binds .any e = true → listed.getD e.on false = true := fun o' ho' => by rw [ho] at ho'; cases ho'; exact hall
    have hg := flow_guard hsh ho
    obtain ⟨hF, kA, kB, pA, pB, pn⟩ := hI
    have hds : ∀ s, o.dst = some s → s < a0.tmps.size := fun s hd => hdst i o s ho hd
    have hev : ∀ (j : Nat) (s : Tmp) (u : Value), waitsB l.toArray 2 i j = true → (l.toArray[j]?).bind (·.dst) = some s → j < m → vals[j]? = some u → a.tmps[s]?.getD undef = u := fun j s u h1 h2 h3 h4 => by
      obtain ⟨oj, hj, hd⟩ := Option.bind_eq_some_iff.1 h2
      have := (hF.done j oj s hj (waits_listed hF.closed 2 i j hall' h1) hd).1 h3 u h4
      rw [← this]; simp [Act.eval]
    -- a step that leaves both blocks alone
    have both : ∀ {v : Value} {w' : World} {L : List Nat}, i ≠ m → i ≠ m + 1 → i ≠ m + 2 → i ≠ m + 3 → But L w w' → (∀ x ∈ L, False) →
        ∃ kA kB, ((listed.setIfInBounds i true).getD m false = true → BlkP w0 A kA (if (listed.setIfInBounds i true).getD (m + 2) false then cx else zs) t (a.put o.dst v) w') ∧ ((listed.setIfInBounds i true).getD (m + 1) false = true → BlkP w0 B kB (if (listed.setIfInBounds i true).getD (m + 3) false then cy else zs) t (a.put o.dst v) w') ∧ ((listed.setIfInBounds i true).getD m false = true → (listed.setIfInBounds i true).getD (m + 1) false = true → kA ≠ kB) := by
      intro v w' L h1 h2 h3 h4 hb hL
      refine ⟨kA, kB, ?_, ?_, ?_⟩
      · rw [getD_set_other (Ne.symm h1), getD_set_other (Ne.symm h3)]
        exact fun h => (pA h).step (fun e => flow_once hsh ho (lo hA) dA (Ne.symm h1) e) hb (fun hx => hL _ hx)
      · rw [getD_set_other (Ne.symm h2), getD_set_other (Ne.symm h4)]
        exact fun h => (pB h).step (fun e => flow_once hsh ho (lo hB) dB (Ne.symm h2) e) hb (fun hx => hL _ hx)
      · rw [getD_set_other (Ne.symm h1), getD_set_other (Ne.symm h2)]
        exact pn
    unfold wpOp
    simp only [ho]
    rw [if_pos (by simp [Region.wanted, hg])]
    refine .inl ?_
    by_cases him : i < m
    · obtain ⟨dd, ff, hdd, hff, h1⟩ := flowL_at hops i o (by rw [List.getElem?_take, if_pos him]; simpa using ho)
      simp only [knowB, Bool.and_eq_true] at hkn
      rw [Nat.zero_add] at h1
      replace h1 := h1 a w hF.but
        (knowF_of fun p hp => by
          have hm : (dd, i) ∈ deps.zipIdx := by
            rw [List.mem_zipIdx_iff_getElem?]
            simpa using hdd
          have h2 := List.all_eq_true.1 (List.all_eq_true.1 hkn.1 _ hm) p hp
          simp only [Bool.and_eq_true, beq_iff_eq] at h2
          obtain ⟨oj, hj, hd⟩ := Option.bind_eq_some_iff.1 h2.2
          have hpl := waits_listed hF.closed 2 i p.1 hall' h2.1
          have hpm : p.1 < m := by
            have hlt : ∀ (n i j : Nat), waitsB l.toArray n i j = true → j < i := by
              intro n
              induction n with
              | zero => intro i j h; cases h
              | succ n ih =>
                intro i j h
                unfold waitsB at h
                cases hoi : l.toArray[i]? with
                | none => rw [hoi] at h; cases h
                | some oi =>
                  rw [hoi] at h
                  obtain ⟨e, he, hb⟩ := Array.any_eq_true'.1 h
                  simp only [Bool.and_eq_true, Bool.or_eq_true, beq_iff_eq] at hb
                  have hle := flow_lex hsh hoi e he hb.1
                  rcases hb.2 with hb2 | hb2
                  · omega
                  · have := ih _ _ hb2; omega
            have := hlt 2 i p.1 h2.1
            omega
          exact fun u hu => (hF.done p.1 oj p.2 hj hpl hd).1 hpm u hu)
        (freeF_of fun p hp => by
          have hmf : (ff.map (·.1), i) ∈ (frees.map (·.map (·.1))).zipIdx := by
            rw [List.mem_zipIdx_iff_getElem?]
            simp [hff]
          have hfr := List.all_eq_true.1 (List.all_eq_true.1 hkn.2 _ hmf) p.1 (List.mem_map.2 ⟨p, hp, rfl⟩)
          have := hF.free p.1 (fun j oj hj hd => by
            cases hl : listed.getD j false with
            | false => rfl
            | true =>
              exfalso
              have hm : (oj, j) ∈ l.toArray.toList.zipIdx := by
                rw [List.mem_zipIdx_iff_getElem?]
                simpa using hj
              have h2 := List.all_eq_true.1 hfr _ hm
              simp only [hd, bne_self_eq_false, Bool.false_or, Bool.or_eq_true, beq_iff_eq] at h2
              rcases h2 with rfl | h2
              · rw [hunF] at hl; cases hl
              · have := waits_listed hF.closed 3 j i (fun o' ho' => hF.closed j o' ho' hl) h2
                rw [hunF] at this; cases this)
          rw [← hfree ff (List.mem_of_getElem? hff) p hp]
          simp only [Act.eval, Array.getD_eq_getD_getElem?]
          rw [this])
      refine Oper.wp_mono ?_ h1
      rintro a' w' ⟨hb, v, rfl, hGi⟩
      exact ⟨invF_step hsh hF ho hunF hil hall hds (hF.but.trans hb (by simp)) (fun _ _ h => h) (fun s _ => ⟨fun _ => hGi, fun e => by omega⟩), both (by omega) (by omega) (by omega) (by omega) hb (by simp)⟩
    · have hi5 : i = m ∨ i = m + 1 ∨ i = m + 2 ∨ i = m + 3 ∨ i = m + 4 := by omega
      rcases hi5 with rfl | rfl | rfl | rfl | rfl
      · obtain rfl : oA = o := Option.some.inj ((lo hA).symm.trans ho)
        refine Oper.wp_mono ?_ (opA a w)
        rintro a' w' ⟨rfl, rfl⟩
        have hb : But [] w (w.alloc (.cells zs t)) := (But.refl [] w).alloc _
        refine ⟨invF_step hsh hF ho hunF hil hall hds (hF.but.trans hb (by simp)) (fun _ _ h => h) (fun s _ => ⟨fun e => by omega, fun e => by omega⟩), w.heap.size, kB, ?_, ?_, ?_⟩
        · intro _
          have h2 : listed.getD (i + 2) false = false := by
            cases h : listed.getD (i + 2) false with
            | false => rfl
            | true =>
              exfalso
              have := waits_listed hF.closed 2 (i + 2) i (fun o' ho' => hF.closed _ o' ho' h) hwA
              rw [hunF] at this; cases this
          rw [getD_set_other (by omega), h2, if_neg (by decide)]
          exact ⟨by rw [dA, eval_sameF (by rw [hF.size]; exact hds _ dA)], hF.but.size, heap_alloc_new _ _⟩
        · rw [getD_set_other (by omega), getD_set_other (by omega)]
          exact fun h => (pB h).step (by rw [dA]; exact fun e => hAB (Option.some.inj e)) hb (by simp)
        · intro _ h
          rw [getD_set_other (by omega)] at h
          have := lt_of (pB h).2.2
          omega
      · obtain rfl : oB = o := Option.some.inj ((lo hB).symm.trans ho)
        refine Oper.wp_mono ?_ (opB a w)
        rintro a' w' ⟨rfl, rfl⟩
        have hb : But [] w (w.alloc (.cells zs t)) := (But.refl [] w).alloc _
        refine ⟨invF_step hsh hF ho hunF hil hall hds (hF.but.trans hb (by simp)) (fun _ _ h => h) (fun s _ => ⟨fun e => by omega, fun e => by omega⟩), kA, w.heap.size, ?_, ?_, ?_⟩
        · rw [getD_set_other (by omega), getD_set_other (by omega)]
          exact fun h => (pA h).step (by rw [dB]; exact fun e => hAB (Option.some.inj e).symm) hb (by simp)
        · intro _
          have h2 : listed.getD (m + 3) false = false := by
            cases h : listed.getD (m + 3) false with
            | false => rfl
            | true =>
              exfalso
              have := waits_listed hF.closed 2 (m + 3) (m + 1) (fun o' ho' => hF.closed _ o' ho' h) hwB
              rw [hunF] at this; cases this
          rw [getD_set_other (by omega), h2, if_neg (by decide)]
          exact ⟨by rw [dB, eval_sameF (by rw [hF.size]; exact hds _ dB)], hF.but.size, heap_alloc_new _ _⟩
        · intro h _
          rw [getD_set_other (by omega)] at h
          have := lt_of (pA h).2.2
          omega
      · obtain rfl : sA = o := Option.some.inj ((lo hsA).symm.trans ho)
        have lA : listed.getD m false = true := waits_listed hF.closed 2 (m + 2) m hall' hwA
        obtain ⟨e1, e2, e3⟩ := pA lA
        rw [hunF, if_neg (by decide)] at e3
        simp only [Bool.and_eq_true, beq_iff_eq, decide_eq_true_eq] at hwx
        refine Oper.wp_mono ?_ (osA a w kA (by rw [← e1]; simp [Act.eval]) (hev jx sx vx hwx.1.1 hwx.1.2 hwx.2 hvx) e3)
        rintro a' w' ⟨⟨v, rfl⟩, hb, hc'⟩
        have hb0 : But [] w0 w' := hF.but.trans hb (by simp only [List.mem_singleton]; rintro x rfl; exact .inr e2)
        refine ⟨invF_step hsh hF ho hunF hil hall hds hb0 (fun _ _ h => h) (fun s hd => by rw [dsA] at hd; cases hd), kA, kB, ?_, ?_, ?_⟩
        · intro _
          rw [(getD_setF hil).2 (.inl rfl), if_pos rfl]
          exact ⟨by rw [dsA]; exact e1, e2, hc'⟩
        · rw [getD_set_other (by omega), getD_set_other (by omega)]
          exact fun h => (pB h).step (by rw [dsA]; simp) hb (by simp only [List.mem_singleton]; exact fun e => pn lA h e.symm)
        · rw [getD_set_other (by omega), getD_set_other (by omega)]
          exact pn
      · obtain rfl : sB = o := Option.some.inj ((lo hsB).symm.trans ho)
        have lB : listed.getD (m + 1) false = true := waits_listed hF.closed 2 (m + 3) (m + 1) hall' hwB
        obtain ⟨e1, e2, e3⟩ := pB lB
        rw [hunF, if_neg (by decide)] at e3
        simp only [Bool.and_eq_true, beq_iff_eq, decide_eq_true_eq] at hwy
        refine Oper.wp_mono ?_ (osB a w kB (by rw [← e1]; simp [Act.eval]) (hev jy sy vy hwy.1.1 hwy.1.2 hwy.2 hvy) e3)
        rintro a' w' ⟨⟨v, rfl⟩, hb, hc'⟩
        have hb0 : But [] w0 w' := hF.but.trans hb (by simp only [List.mem_singleton]; rintro x rfl; exact .inr e2)
        refine ⟨invF_step hsh hF ho hunF hil hall hds hb0 (fun _ _ h => h) (fun s hd => by rw [dsB] at hd; cases hd), kA, kB, ?_, ?_, ?_⟩
        · rw [getD_set_other (by omega), getD_set_other (by omega)]
          exact fun h => (pA h).step (by rw [dsB]; simp) hb (by simp only [List.mem_singleton]; exact fun e => pn h lB e)
        · intro _
          rw [(getD_setF hil).2 (.inl rfl), if_pos rfl]
          exact ⟨by rw [dsB]; exact e1, e2, hc'⟩
        · rw [getD_set_other (by omega), getD_set_other (by omega)]
          exact pn
      · obtain rfl : oc = o := Option.some.inj ((lo hc).symm.trans ho)
        simp only [Bool.and_eq_true, beq_iff_eq, decide_eq_true_eq] at hwz
        refine Oper.wp_mono ?_ (ooc a w (hev jz sz vz hwz.1.1 hwz.1.2 hwz.2 hvz))
        rintro a' w' ⟨rfl, rfl⟩
        exact ⟨invF_step hsh hF ho hunF hil hall hds hF.but (fun _ _ h => h) (fun s _ => ⟨fun e => by omega, fun _ => rfl⟩), both (by omega) (by omega) (by omega) (by omega) (But.refl [] _) (by simp)⟩
  · intro listed a w hs hI hr
    have hall : ∀ i, i < l.toArray.size → listed.getD i false = true := by
      intro i
      induction i using Nat.strongRecOn with
      | ind i ih =>
        intro hi
        cases hl : listed.getD i false with
        | true => rfl
        | false =>
          exfalso
          have hmem : i ∈ Region.ready .any l.toArray listed := by
            refine mem_ready.2 ⟨?_, l.toArray[i], Array.getElem?_eq_getElem hi, fun e he hb => ?_⟩
            · have hlt : i < listed.size := by omega
              rw [Array.getD_eq_getD_getElem?, Array.getElem?_eq_getElem hlt] at hl ⊢
              simpa using hl
            · have := flow_lex hsh (Array.getElem?_eq_getElem hi) e he hb
              exact ih e.on this (by omega)
          rw [hr] at hmem
          cases hmem
    obtain ⟨hF, kA, kB, pA, pB, pn⟩ := hI
    have l0 := hall m (by omega)
    have l1 := hall (m + 1) (by omega)
    have l2 := hall (m + 2) (by omega)
    have l3 := hall (m + 3) (by omega)
    have l4 := hall (m + 4) (by omega)
    obtain ⟨a1, a2, a3⟩ := pA l0
    obtain ⟨b1, b2, b3⟩ := pB l1
    rw [l2, if_pos rfl] at a3
    rw [l3, if_pos rfl] at b3
    have hc4 := (hF.done (m + 4) oc c (lo hc) l4 dc).2 rfl
    have hfin := hend (fun s => a.eval (.tmp s)) w kA kB hF.but a1 b1 hc4 a2 b2 (pn l0 l1) a3 b3
    have hfr : (⟨frameF (l.take l.length) a0.tmps (fun s => a.eval (.tmp s)), a0.defers⟩ : Act) = a := frame_eqF hF.defers hF.size (fun s hs' => hF.free s (fun j oj hj hd => by
      have hj' : l[j]? = some oj := by simpa using hj
      exact absurd hd (hs' j oj (List.getElem?_eq_some_iff.1 hj').1 hj')))
    rw [List.take_length, frameF_pat hpat hplen] at hfr
    rw [hfr] at hfin
    exact hfin
  · refine ⟨⟨(But.refl [] w0).drew, rfl, rfl, ?_, ?_, fun s _ => rfl⟩, 0, 0, ?_, ?_, ?_⟩
    · intro j oj hj hl
      have hj' := (Array.getElem?_eq_some_iff.1 hj).1
      have hj2 : j < l.length := by omega
      simp [hj2] at hl
    · intro j oj s hj hl
      have hj' := (Array.getElem?_eq_some_iff.1 hj).1
      have hj2 : j < l.length := by omega
      simp [hj2] at hl
    all_goals (intro hl; rw [getD_rep] at hl; cases hl)
theorem pair_alloc {o : Oper} {a : Act} {w w' : World} {v : Value} (hr : (execOp a.eval o).run P w = .ok (.value v) w') : o.wp P a w (fun a' w'' => a' = a.put o.dst v ∧ w'' = w') Q := by
  unfold Oper.wp
  rw [hr]
  exact ⟨rfl, rfl⟩
theorem pair_store {o : Oper} {a : Act} {w w' : World} {k : Nat} {cx : Array Value} {t : TypeId} (hd : o.dst = none) (hr : (execOp a.eval o).run P w = .ok .skip w') (hb : But [k] w w') (hh : w'.heap[k]? = some (.cells cx t)) :
    o.wp P a w (fun a' w'' => (∃ v, a' = a.put o.dst v) ∧ But [k] w w'' ∧ w''.heap[k]? = some (.cells cx t)) Q := by
  unfold Oper.wp
  rw [hr]
  exact ⟨⟨undef, by rw [hd]⟩, hb, hh⟩
end
end Go.Proofs.Ytmbmmcippglfoaa.M
