/-
  A region that draws its order and whose operations make memory, or only look: each operation is shown once, from what it waits on; whatever the order, at the end each has come to what is said of it. No program.
-/
import Derived.Test.YtlhegejfaihgmaaHeap
import Derived.Orders
import Derived.Tactics
import Derived.KernelRfl
namespace Go.Proofs.Ytlhegejfaihgmaa.M
open Go.RowKit
set_option linter.unusedVariables false
set_option linter.unusedSectionVars false
set_option linter.unusedSimpArgs false
section
variable {P : Program} {ops : Array Oper} {Q : Exit → Act → World → Prop}
theorem count_setF {l : List Bool} {i : Nat} (h : l[i]? = some false) : (l.set i true).count false + 1 = l.count false := by
  induction l generalizing i with
  | nil => simp at h
  | cons x r ih =>
    cases i with
    | zero =>
      simp only [List.getElem?_cons_zero, Option.some.injEq] at h
      subst h
      simp
    | succ i =>
      simp only [List.getElem?_cons_succ] at h
      have := ih h
      simp only [List.set_cons_succ, List.count_cons]
      omega
theorem ready_noneF {listed : Array Bool} (hs : listed.size = ops.size) (hc : listed.toList.count false = 0) : Region.ready .any ops listed = [] := by
  rw [List.eq_nil_iff_forall_not_mem]
  intro i hi
  obtain ⟨h0, o, ho, _⟩ := mem_ready.1 hi
  have hlt : i < listed.size := by rw [hs]; exact (Array.getElem?_eq_some_iff.1 ho).1
  have hm : false ∈ listed.toList := by
    rw [Array.getD_eq_getD_getElem?, Array.getElem?_eq_getElem hlt] at h0
    simp only [Option.getD_some] at h0
    rw [← h0]
    simp
  have := List.count_pos_iff.2 hm
  omega
/-- An invariant that every operation keeps, in whatever order. -/
theorem wpAny_invF (Inv : Array Bool → Act → World → Prop)
    (hstep : ∀ (listed : Array Bool) (a : Act) (w : World) (i : Nat), listed.size = ops.size → Inv listed a w → i ∈ Region.ready .any ops listed →
      wpOp P ops Q i (Inv (listed.setIfInBounds i true)) a w)
    (hend : ∀ (listed : Array Bool) (a : Act) (w : World), listed.size = ops.size → Inv listed a w → Region.ready .any ops listed = [] → Q .normal a w) :
    ∀ (fuel : Nat) (listed : Array Bool) (a : Act) (w : World), listed.size = ops.size → listed.toList.count false ≤ fuel → Inv listed a w →
      wpAny P .any ops Q fuel listed a w := by
  intro fuel
  induction fuel with
  | zero =>
    intro listed a w hs hc hI
    have hr := ready_noneF hs (Nat.le_zero.1 hc)
    exact ⟨hr, hend listed a w hs hI hr⟩
  | succ fuel ih =>
    intro listed a w hs hc hI
    refine ⟨fun hr => hend listed a w hs hI hr, fun i hi => ?_⟩
    refine wpOp_mono (fun a' w' hI' => ih _ a' w' (by simpa using hs) ?_ hI') (hstep listed a w i hs hI hi)
    obtain ⟨h0, o, ho, _⟩ := mem_ready.1 hi
    have hlt : i < listed.size := by rw [hs]; exact (Array.getElem?_eq_some_iff.1 ho).1
    have hf : listed.toList[i]? = some false := by
      rw [Array.getD_eq_getD_getElem?, Array.getElem?_eq_getElem hlt] at h0
      simp only [Option.getD_some] at h0
      rw [List.getElem?_eq_getElem (by simpa using hlt)]
      simpa using h0
    have := count_setF hf
    simp only [Array.toList_setIfInBounds]
    omega
/-- Does an operation wait on another, by at most so many edges? -/
def waitsB (ops : Array Oper) : Nat → Nat → Nat → Bool
  | 0, _, _ => false
  | n + 1, i, j => match ops[i]? with
    | none => false
    | some o => o.after.any fun e => Region.binds .any e && (e.on == j || waitsB ops n e.on j)
/-- For the kernel: no guard; each waits on earlier ones alone; no temporary is written twice. -/
def flowB (ops : Array Oper) : Bool :=
  (List.range ops.size).all fun i => match ops[i]? with
    | none => false
    | some o => o.guard.isNone && o.after.all (fun e => !Region.binds .any e || decide (e.on < i)) &&
      (List.range ops.size).all fun j => match ops[j]? with
        | none => false
        | some oj => match oj.dst with
          | none => true
          | some d => j == i || o.dst != some d
theorem flow_guard (h : flowB ops = true) {i : Nat} {o : Oper} (ho : ops[i]? = some o) : o.guard = none := by
  have hi := (Array.getElem?_eq_some_iff.1 ho).1
  have := List.all_eq_true.1 h i (by simpa using hi)
  simp only [ho, Bool.and_eq_true] at this
  simpa using this.1.1
theorem flow_lex (h : flowB ops = true) {i : Nat} {o : Oper} (ho : ops[i]? = some o) : ∀ e ∈ o.after, Region.binds .any e = true → e.on < i := by
  have hi := (Array.getElem?_eq_some_iff.1 ho).1
  have := List.all_eq_true.1 h i (by simpa using hi)
  simp only [ho, Bool.and_eq_true] at this
  intro e he hb
  have h2 := Array.all_eq_true_iff_forall_mem.1 this.1.2 e he
  simpa [hb] using h2
theorem flow_once (h : flowB ops = true) {i j : Nat} {o oj : Oper} (ho : ops[i]? = some o) (hoj : ops[j]? = some oj) {d : Tmp} (hd : oj.dst = some d) (hne : j ≠ i) : o.dst ≠ some d := by
  have hi := (Array.getElem?_eq_some_iff.1 ho).1
  have hj := (Array.getElem?_eq_some_iff.1 hoj).1
  have := List.all_eq_true.1 h i (by simpa using hi)
  simp only [ho, Bool.and_eq_true] at this
  have h2 := List.all_eq_true.1 this.2 j (by simpa using hj)
  simp only [hoj, hd, Bool.or_eq_true, beq_iff_eq, bne_iff_ne] at h2
  exact h2.resolve_left hne
/-- What has come up has what it waits on behind it. -/
def ClosedF (ops : Array Oper) (listed : Array Bool) : Prop := ∀ (j : Nat) (oj : Oper), ops[j]? = some oj → listed.getD j false = true → ∀ e ∈ oj.after, Region.binds .any e = true → listed.getD e.on false = true
theorem waits_listed {listed : Array Bool} (hc : ClosedF ops listed) : ∀ (n i j : Nat), (∀ o, ops[i]? = some o → ∀ e ∈ o.after, Region.binds .any e = true → listed.getD e.on false = true) → waitsB ops n i j = true → listed.getD j false = true := by
  intro n
  induction n with
  | zero => intro i j _ h; cases h
  | succ n ih =>
    intro i j hall h
    unfold waitsB at h
    cases ho : ops[i]? with
    | none => rw [ho] at h; cases h
    | some o =>
      rw [ho] at h
      obtain ⟨e, he, hb⟩ := Array.any_eq_true'.1 h
      simp only [Bool.and_eq_true, Bool.or_eq_true, beq_iff_eq] at hb
      obtain ⟨hb1, hb2 | hb2⟩ := hb
      · exact hb2 ▸ hall o ho e he hb1
      · exact ih e.on j (fun x hx => hc e.on x hx (hall o ho e he hb1)) hb2
/-- What is so wherever the region stands. -/
structure InvF (ops : Array Oper) (R : World → World → Prop) (G : Nat → Value → World → Prop) (w0 : World) (a0 : Act) (listed : Array Bool) (a : Act) (w : World) : Prop where
  but : R w0 w
  defers : a.defers = a0.defers
  size : a.tmps.size = a0.tmps.size
  closed : ClosedF ops listed
  done : ∀ (i : Nat) (o : Oper) (s : Tmp), ops[i]? = some o → listed.getD i false = true → o.dst = some s → G i (a.eval (.tmp s)) w
  free : ∀ s : Tmp, (∀ (i : Nat) (o : Oper), ops[i]? = some o → o.dst = some s → listed.getD i false = false) → a.tmps[s]? = a0.tmps[s]?
/-- The frame behind the region. -/
def hasF : List Oper → Tmp → Bool
  | [], _ => false
  | o :: r, s => match o.dst with
    | none => hasF r s
    | some d => Nat.beq d s || hasF r s
theorem hasF_iff : ∀ {l : List Oper} {s : Tmp}, hasF l s = true ↔ ∃ o ∈ l, o.dst = some s
  | [], s => by simp [hasF]
  | o :: r, s => by
    have ih := hasF_iff (l := r) (s := s)
    cases h : o.dst with
    | none => simp [hasF, h, ih]
    | some d => simp [hasF, h, ih, Nat.beq_eq_true_eq]
def frameL (l : List Oper) (f : Tmp → Value) : Nat → List Value → List Value
  | _, [] => []
  | s, v :: r => (match hasF l s with | true => f s | false => v) :: frameL l f (s + 1) r
theorem frameL_at {l : List Oper} {f : Tmp → Value} : ∀ {t : List Value} {k s : Nat}, (frameL l f k t)[s]? = (t[s]?).map fun v => if hasF l (k + s) then f (k + s) else v
  | [], k, s => by simp [frameL]
  | v :: r, k, 0 => by cases h : hasF l k <;> simp [frameL, h]
  | v :: r, k, s + 1 => by
    simp only [frameL, List.getElem?_cons_succ]
    rw [frameL_at, show k + 1 + s = k + (s + 1) by omega]
def frameF (l : List Oper) (t : Array Value) (f : Tmp → Value) : Array Value := (frameL l f 0 t.toList).toArray
theorem eval_putF {a : Act} {d s : Tmp} {v : Value} (h : d ≠ s) : (a.put (some d) v).eval (.tmp s) = a.eval (.tmp s) :=
  Act.eval_put (fun d' hd e => by cases hd; cases e; exact h rfl)
theorem eval_sameF {a : Act} {d : Tmp} {v : Value} (h : d < a.tmps.size) : (a.put (some d) v).eval (.tmp d) = v := by
  simp [Act.put, Act.eval, h]
theorem getD_setF {listed : Array Bool} {i j : Nat} (hi : i < listed.size) : (listed.setIfInBounds i true).getD j false = true ↔ j = i ∨ listed.getD j false = true := by
  by_cases h : j = i
  · subst h; simp [hi]
  · simp [h, getD_set_ne false (Ne.symm h)]
/-- What is known of temporaries: of those that the region writes, and of those that it does not. -/
def KnowF (G : Nat → Value → World → Prop) (a : Act) (w : World) : List (Nat × Tmp) → Prop
  | [] => True
  | p :: r => G p.1 (a.eval (.tmp p.2)) w ∧ KnowF G a w r
def FreeF (a : Act) : List (Tmp × Value) → Prop
  | [] => True
  | p :: r => a.eval (.tmp p.1) = p.2 ∧ FreeF a r
def FreeA (a : Act) : List (List (Tmp × Value)) → Prop
  | [] => True
  | f :: r => FreeF a f ∧ FreeA a r
theorem freeF_at {a : Act} : ∀ {f : List (Tmp × Value)}, FreeF a f → ∀ p ∈ f, a.eval (.tmp p.1) = p.2
  | [], _, p, hp => by cases hp
  | q :: r, h, p, hp => by
    rcases List.mem_cons.1 hp with rfl | hp
    · exact h.1
    · exact freeF_at h.2 p hp
theorem freeA_at {a : Act} : ∀ {fs : List (List (Tmp × Value))}, FreeA a fs → ∀ f ∈ fs, ∀ p ∈ f, a.eval (.tmp p.1) = p.2
  | [], _, f, hf => by cases hf
  | q :: r, h, f, hf => by
    rcases List.mem_cons.1 hf with rfl | hf
    · exact freeF_at h.1
    · exact freeA_at h.2 f hf
/-- What is to be shown of each operation. -/
def FlowL (P : Program) (Q : Exit → Act → World → Prop) (R : World → World → Prop) (G : Nat → Value → World → Prop) (w0 : World) : Nat → List Oper → List (List (Nat × Tmp)) → List (List (Tmp × Value)) → Prop
  | _, [], _, _ => True
  | i, o :: os, d :: ds, f :: fs => (∀ (a : Act) (w : World), R w0 w → KnowF G a w d → FreeF a f → o.wp P a w (fun a' w' => R w w' ∧ ∃ v, a' = a.put o.dst v ∧ G i v w') Q) ∧ FlowL P Q R G w0 (i + 1) os ds fs
  | _, _ :: _, _, _ => False
/-- For the kernel: each waits on those that it is said to know; nobody who writes a temporary that is free to an operation comes ahead of it. -/
def knowB (ops : Array Oper) (deps : List (List (Nat × Tmp))) (frees : List (List Tmp)) : Bool :=
  (deps.zipIdx.all fun (d, i) => d.all fun p => waitsB ops 2 i p.1 && (ops[p.1]?).bind (·.dst) == some p.2) &&
  (frees.zipIdx.all fun (f, i) => f.all fun s => ops.toList.zipIdx.all fun (oj, j) => oj.dst != some s || j == i || waitsB ops 3 j i)
theorem knowF_of {G : Nat → Value → World → Prop} {a : Act} {w : World} : ∀ {d : List (Nat × Tmp)}, (∀ p ∈ d, G p.1 (a.eval (.tmp p.2)) w) → KnowF G a w d
  | [], _ => trivial
  | p :: r, h => ⟨h p (by simp), knowF_of fun q hq => h q (by simp [hq])⟩
theorem freeF_of {a : Act} : ∀ {f : List (Tmp × Value)}, (∀ p ∈ f, a.eval (.tmp p.1) = p.2) → FreeF a f
  | [], _ => trivial
  | p :: r, h => ⟨h p (by simp), freeF_of fun q hq => h q (by simp [hq])⟩
theorem flowL_at {R : World → World → Prop} {G : Nat → Value → World → Prop} {w0 : World} : ∀ {os : List Oper} {ds : List (List (Nat × Tmp))} {fs : List (List (Tmp × Value))} {k : Nat}, FlowL P Q R G w0 k os ds fs → ∀ (i : Nat) (o : Oper), os[i]? = some o →
    ∃ d f, ds[i]? = some d ∧ fs[i]? = some f ∧ ∀ (a : Act) (w : World), R w0 w → KnowF G a w d → FreeF a f → o.wp P a w (fun a' w' => R w w' ∧ ∃ v, a' = a.put o.dst v ∧ G (k + i) v w') Q
  | [], _, _, _, _, i, o, ho => by simp at ho
  | x :: os, [], _, _, h, i, o, ho => by simp [FlowL] at h
  | x :: os, d :: ds, [], _, h, i, o, ho => by simp [FlowL] at h
  | x :: os, d :: ds, f :: fs, k, h, 0, o, ho => by
    simp only [List.getElem?_cons_zero, Option.some.injEq] at ho
    subst ho
    exact ⟨d, f, rfl, rfl, h.1⟩
  | x :: os, d :: ds, f :: fs, k, h, i + 1, o, ho => by
    simp only [List.getElem?_cons_succ] at ho
    obtain ⟨d', f', h1, h2, h3⟩ := flowL_at h.2 i o ho
    refine ⟨d', f', by simpa using h1, by simpa using h2, ?_⟩
    rw [show k + (i + 1) = k + 1 + i by omega]
    exact h3
/-- For the kernel: of the first m operations each has another one, at most number m, that waits on it; behind number m each waits on the one before. -/
def tailB (ops : Array Oper) (m : Nat) : Bool :=
  (List.range m).all (fun i => (List.range (m + 1)).any fun j => decide (i < j) && waitsB ops 1 j i) &&
  (List.range ops.size).all fun i => decide (i ≤ m) || waitsB ops 1 i (i - 1)
theorem waits_one {listed : Array Bool} {i j : Nat} (h : waitsB ops 1 i j = true) (hall : ∀ o, ops[i]? = some o → ∀ e ∈ o.after, Region.binds .any e = true → listed.getD e.on false = true) : listed.getD j false = true := by
  simp only [waitsB] at h
  cases ho : ops[i]? with
  | none => rw [ho] at h; cases h
  | some o =>
    rw [ho] at h
    obtain ⟨e, he, hb⟩ := Array.any_eq_true'.1 h
    simp only [Bool.and_eq_true, Bool.or_false, beq_iff_eq] at hb
    exact hb.2 ▸ hall o ho e he hb.1
theorem frame_eqF {a a0 : Act} {l : List Oper} {m : Nat} (hd : a.defers = a0.defers) (hz : a.tmps.size = a0.tmps.size) (hfree : ∀ s : Tmp, (∀ (i : Nat) (o : Oper), i < m → l[i]? = some o → o.dst ≠ some s) → a.tmps[s]? = a0.tmps[s]?) :
    (⟨frameF (l.take m) a0.tmps (fun s => a.eval (.tmp s)), a0.defers⟩ : Act) = a := by
  cases a with
  | mk t d =>
    have h1 : d = a0.defers := hd
    have h2 : t.size = a0.tmps.size := hz
    subst h1
    congr 1
    apply Array.ext_getElem?
    intro s
    unfold frameF
    rw [List.getElem?_toArray, frameL_at]
    simp only [Nat.zero_add]
    by_cases hsz : s < a0.tmps.size
    · rw [Array.getElem?_toList, Array.getElem?_eq_getElem hsz]
      simp only [Option.map_some]
      by_cases ha : hasF (l.take m) s = true
      · rw [if_pos ha]
        simp only [Act.eval]
        rw [Array.getElem?_eq_getElem (by omega)]
        simp [Array.getD, h2, hsz]
      · rw [if_neg ha]
        have := hfree s (fun i o him ho hds => by
          apply ha
          refine hasF_iff.2 ⟨o, ?_, hds⟩
          refine List.mem_of_getElem? (i := i) ?_
          rw [List.getElem?_take, if_pos him]
          exact ho)
        rw [this, Array.getElem?_eq_getElem hsz]
    · rw [Array.getElem?_toList, Array.getElem?_eq_none (by omega), Array.getElem?_eq_none (by omega)]
      rfl
def InvT (P : Program) (ops : Array Oper) (Q : Exit → Act → World → Prop) (R : World → World → Prop) (G : Nat → Value → World → Prop) (w0 : World) (a0 : Act) (m : Nat) (listed : Array Bool) (a : Act) (w : World) : Prop :=
  ((∀ i, m ≤ i → listed.getD i false = false) ∧ InvF ops R G w0 a0 listed a w) ∨ ∃ k, m < k ∧ k ≤ ops.size ∧ (∀ i, listed.getD i false = true ↔ i < k) ∧ wpOps P ops Q (List.range' k (ops.size - k)) a w
theorem getD_out {listed : Array Bool} {i : Nat} (h : listed.size ≤ i) : listed.getD i false = false := by
  simp [Array.getD, Nat.not_lt.2 h]
/-- The first m operations come in whatever order; the others, in the order of the text, behind them. -/
theorem wp_region_flow {id : Nat} {l : List Oper} {a0 : Act} {w0 : World} (m : Nat) (hml : m < l.length) (hm : P.follows .mixedOrders = true) (R : World → World → Prop) (htrans : ∀ a b c, R a b → R b c → R a c) (hdraw : R w0 { w0 with drawn := w0.drawn + 1 })
    (G : Nat → Value → World → Prop) (deps : List (List (Nat × Tmp))) (frees : List (List (Tmp × Value))) (hsh : flowB l.toArray = true) (htl : tailB l.toArray m = true) (hkn : knowB l.toArray deps (frees.map (·.map (·.1))) = true)
    (hdst : (l.toArray.all fun o => match o.dst with | none => true | some s => decide (s < a0.tmps.size)) = true)
    (hfreeA : FreeA a0 frees)
    (hkeep : ∀ i v w w', R w0 w → G i v w → R w w' → G i v w')
    (hops : FlowL P Q R G w0 0 (l.take m) deps frees)
    (hend : ∀ (f : Tmp → Value) (w : World), R w0 w → (∀ (i : Nat) (o : Oper) (s : Tmp), i < m → l[i]? = some o → o.dst = some s → G i (f s) w) → wpList P l.toArray Q (l.drop m) ⟨frameF (l.take m) a0.tmps f, a0.defers⟩ w) :
    (Code.region id l.toArray true).wp P Q a0 w0 := by
  have hsz : l.toArray.size = l.length := by simp
  have hfree := freeA_at hfreeA
  replace hdst : ∀ (i : Nat) (o : Oper) (s : Tmp), l.toArray[i]? = some o → o.dst = some s → s < a0.tmps.size := fun i o s ho hd => by
    have := Array.all_eq_true_iff_forall_mem.1 hdst o (Array.mem_of_getElem? ho)
    simpa [hd] using this
  have hlo : ∀ (i : Nat) (o : Oper), l.toArray[i]? = some o ↔ l[i]? = some o := fun i o => by simp
  simp only [tailB, Bool.and_eq_true] at htl
  have hsuc : ∀ i, i < m → ∃ j, i < j ∧ j ≤ m ∧ waitsB l.toArray 1 j i = true := fun i hi => by
    have h1 := List.all_eq_true.1 htl.1 i (by simpa using hi)
    obtain ⟨j, hj, h2⟩ := List.any_eq_true.1 h1
    simp only [Bool.and_eq_true, decide_eq_true_eq] at h2
    have hj' : j < m + 1 := by simpa using hj
    exact ⟨j, h2.1, by omega, h2.2⟩
  have hpre : ∀ i, m < i → i < l.length → waitsB l.toArray 1 i (i - 1) = true := fun i h1 h2 => by
    have h3 := List.all_eq_true.1 htl.2 i (by simpa using h2)
    simp only [Bool.or_eq_true, decide_eq_true_eq] at h3
    exact h3.resolve_left (by omega)
  refine wp_region_any hm ?_
  refine wpAny_invF (InvT P l.toArray Q R G w0 a0 m) ?_ ?_ _ _ _ _ (by simp) (by simp) ?_
  · intro listed a w i hs hI hi
    obtain ⟨hun, o, ho, hall⟩ := mem_ready.1 hi
    have hio := (Array.getElem?_eq_some_iff.1 ho).1
    have hil : i < listed.size := by omega
    have hunF : listed.getD i false = false := by
      rw [Array.getD_eq_getD_getElem?, Array.getElem?_eq_getElem hil] at hun ⊢
      simpa using hun
    have hall' : ∀ o', l.toArray[i]? = some o' → ∀ e ∈ o'.after, Region.binds .any e = true → listed.getD e.on false = true := fun o' ho' => by rw [ho] at ho'; cases ho'; exact hall
    rcases hI with ⟨hhi, hI⟩ | ⟨k, hk1, hk2, hk3, hk4⟩
    · by_cases him : i < m
      · have hg := flow_guard hsh ho
        obtain ⟨dd, ff, hdd, hff, h1⟩ := flowL_at hops i o (by rw [List.getElem?_take, if_pos him]; simpa using ho)
        simp only [knowB, Bool.and_eq_true] at hkn
        rw [Nat.zero_add] at h1
        replace h1 := h1 a w hI.but
          (knowF_of fun p hp => by
            have hm : (dd, i) ∈ deps.zipIdx := by
              rw [List.mem_zipIdx_iff_getElem?]
              simpa using hdd
            have h2 := List.all_eq_true.1 (List.all_eq_true.1 hkn.1 _ hm) p hp
            simp only [Bool.and_eq_true, beq_iff_eq] at h2
            obtain ⟨oj, hj, hd⟩ := Option.bind_eq_some_iff.1 h2.2
            exact hI.done p.1 oj p.2 hj (waits_listed hI.closed 2 i p.1 hall' h2.1) hd)
          (freeF_of fun p hp => by
            have hmf : (ff.map (·.1), i) ∈ (frees.map (·.map (·.1))).zipIdx := by
              rw [List.mem_zipIdx_iff_getElem?]
              simp [hff]
            have hfr := List.all_eq_true.1 (List.all_eq_true.1 hkn.2 _ hmf) p.1 (List.mem_map.2 ⟨p, hp, rfl⟩)
            have := hI.free p.1 (fun j oj hj hd => by
              cases hl : listed.getD j false with
              | false => rfl
              | true =>
                exfalso
                have hm : (oj, j) ∈ l.toArray.toList.zipIdx := by
                  rw [List.mem_zipIdx_iff_getElem?]
                  simpa using hj
                have h2 := List.all_eq_true.1 hfr _ hm
                simp only [hd, bne_self_eq_false, Bool.false_or, Bool.or_eq_true, beq_iff_eq] at h2
                rcases h2 with rfl | h2
                · rw [hunF] at hl; cases hl
                · have := waits_listed hI.closed 3 j i (fun o' ho' => hI.closed j o' ho' hl) h2
                  rw [hunF] at this; cases this)
            rw [← hfree ff (List.mem_of_getElem? hff) p hp]
            simp only [Act.eval, Array.getD_eq_getD_getElem?]
            rw [this])
        unfold wpOp
        simp only [ho]
        rw [if_pos (by simp [Region.wanted, hg])]
        refine .inl (Oper.wp_mono ?_ h1)
        rintro a' w' ⟨hb, v, rfl, hGi⟩
        refine .inl ⟨fun j hj => ?_, htrans _ _ _ hI.but hb, ?_, ?_, ?_, ?_, ?_⟩
        · rw [getD_set_ne false (by omega)]
          exact hhi j hj
        · cases o.dst <;> exact hI.defers
        · cases o.dst
          · exact hI.size
          · simpa [Act.put] using hI.size
        · intro j oj hj hl e he hbi
          rw [getD_setF hil]
          rcases (getD_setF hil).1 hl with rfl | hl
          · rw [ho] at hj; cases hj; exact .inr (hall e he hbi)
          · exact .inr (hI.closed j oj hj hl e he hbi)
        · intro j oj s hj hl hd
          rcases (getD_setF hil).1 hl with rfl | hl2
          · rw [ho] at hj; cases hj
            rw [hd, eval_sameF (by rw [hI.size]; exact hdst _ _ _ ho hd)]
            exact hGi
          · have hji : j ≠ i := fun e => by rw [e, hunF] at hl2; cases hl2
            have := hkeep _ _ _ _ hI.but (hI.done j oj s hj hl2 hd) hb
            cases hod : o.dst with
            | none => exact this
            | some d =>
              rw [eval_putF (fun e => by subst e; exact flow_once hsh ho hj hd hji hod)]
              exact this
        · intro s hfr
          have hso : o.dst ≠ some s := fun e => by
            have := hfr i o ho e
            rw [(getD_setF hil).2 (.inl rfl)] at this; cases this
          have h2 := hI.free s (fun j oj hj hd => by
            cases hl : listed.getD j false with
            | false => rfl
            | true => have := hfr j oj hj hd; rw [(getD_setF hil).2 (.inr hl)] at this; cases this)
          rw [← h2]
          cases hod : o.dst with
          | none => rfl
          | some d =>
            have : d ≠ s := fun e => hso (by rw [hod, e])
            simp [Act.put, Array.getElem?_setIfInBounds_ne this]
      · have hiem : i = m := by
          by_cases h : i = m
          · exact h
          · have h1 := waits_one (hpre i (by omega) (by omega)) hall'
            rw [hhi (i - 1) (by omega)] at h1
            cases h1
        subst hiem
        have hlist : ∀ d j, j < i → i - j ≤ d → listed.getD j false = true := by
          intro d
          induction d with
          | zero => intro j h1 h2; omega
          | succ d ih =>
            intro j h1 h2
            obtain ⟨j', h3, h4, h5⟩ := hsuc j h1
            by_cases h6 : j' = i
            · subst h6; exact waits_one h5 hall'
            · exact waits_one h5 (fun o' ho' => hI.closed j' o' ho' (ih j' (by omega) (by omega)))
        have hfr : (⟨frameF (l.take i) a0.tmps (fun s => a.eval (.tmp s)), a0.defers⟩ : Act) = a := frame_eqF hI.defers hI.size (fun s hs' => hI.free s (fun j oj hj hd => by
          by_cases hji : j < i
          · exact absurd hd (hs' j oj hji ((hlo j oj).1 hj))
          · exact hhi j (by omega)))
        have hfin := hend (fun s => a.eval (.tmp s)) w hI.but (fun j oj s hji hj hd => hI.done j oj s ((hlo j oj).2 hj) (hlist i j hji (by omega)) hd)
        rw [hfr, ← wpOps_eq_wpList (l.drop i) i (fun j => by simp)] at hfin
        rw [List.length_drop, show l.length - i = (l.length - (i + 1)) + 1 by omega, List.range'_succ, wpOps_cons] at hfin
        refine wpOp_mono (fun a' w' h' => .inr ⟨i + 1, by omega, by omega, fun j => ?_, by rw [hsz]; exact h'⟩) hfin
        rw [getD_setF hil]
        constructor
        · rintro (rfl | h)
          · omega
          · by_cases hji : j < i
            · omega
            · rw [hhi j (by omega)] at h; cases h
        · intro h
          by_cases hji : j = i
          · exact .inl hji
          · exact .inr (hlist i j (by omega) (by omega))
    · have hiek : i = k := by
        have h0 : ¬ i < k := fun h => by have := (hk3 i).2 h; rw [hunF] at this; cases this
        by_cases h : i = k
        · exact h
        · have h1 := waits_one (hpre i (by omega) (by omega)) hall'
          have := (hk3 (i - 1)).1 h1
          omega
      subst hiek
      rw [show l.toArray.size - i = (l.toArray.size - (i + 1)) + 1 by omega, List.range'_succ, wpOps_cons] at hk4
      refine wpOp_mono (fun a' w' h' => .inr ⟨i + 1, by omega, by omega, fun j => ?_, h'⟩) hk4
      rw [getD_setF hil, hk3]
      omega
  · intro listed a w hs hI hr
    have hall : ∀ i, i < l.toArray.size → listed.getD i false = true := by
      intro i
      induction i using Nat.strongRecOn with
      | ind i ih =>
        intro hi
        cases hl : listed.getD i false with
        | true => rfl
        | false =>
          exfalso
          have hmem : i ∈ Region.ready .any l.toArray listed := by
            refine mem_ready.2 ⟨?_, l.toArray[i], Array.getElem?_eq_getElem hi, fun e he hb => ?_⟩
            · have hlt : i < listed.size := by omega
              rw [Array.getD_eq_getD_getElem?, Array.getElem?_eq_getElem hlt] at hl ⊢
              simpa using hl
            · have := flow_lex hsh (Array.getElem?_eq_getElem hi) e he hb
              exact ih e.on this (by omega)
          rw [hr] at hmem
          cases hmem
    rcases hI with ⟨hhi, _⟩ | ⟨k, hk1, hk2, hk3, hk4⟩
    · have h1 := hall m (by omega)
      rw [hhi m (Nat.le_refl _)] at h1
      cases h1
    · have hke : k = l.toArray.size := by
        by_cases h : k < l.toArray.size
        · have := (hk3 k).1 (hall k h); omega
        · omega
      rw [hke, Nat.sub_self] at hk4
      exact hk4
  · refine .inl ⟨fun i _ => ?_, hdraw, rfl, rfl, ?_, ?_, fun s _ => rfl⟩
    · by_cases h : i < l.toArray.size
      · have h' : i < l.length := by omega
        simp [Array.getD, h']
      · exact getD_out (by simpa using h)
    · intro j oj hj hl
      have hj' := (Array.getElem?_eq_some_iff.1 hj).1
      have hj2 : j < l.length := by omega
      simp [hj2] at hl
    · intro j oj s hj hl
      have hj' := (Array.getElem?_eq_some_iff.1 hj).1
      have hj2 : j < l.length := by omega
      simp [hj2] at hl
/-- An operation that leaves a value. -/
theorem flow_run {R : World → World → Prop} {G : Nat → Value → World → Prop} {i : Nat} {o : Oper} {a : Act} {w w' : World} {v : Value} (hr : (execOp a.eval o).run P w = .ok (.value v) w') (hb : R w w') (hG : G i v w') :
    o.wp P a w (fun a' w' => R w w' ∧ ∃ v, a' = a.put o.dst v ∧ G i v w') Q := by
  unfold Oper.wp
  rw [hr]
  exact ⟨hb, v, rfl, hG⟩
/-- A call. -/
theorem flow_call {R : World → World → Prop} {G : Nat → Value → World → Prop} {i : Nat} {o : Oper} {a : Act} {w : World} {f : FuncId} {args : Array Value} (hr : (execOp a.eval o).run P w = .ok (.enter f args) w) (hc : Calls P f args w fun e w' => ∃ v, e = .returned v ∧ R w w' ∧ G i v w') :
    o.wp P a w (fun a' w' => R w w' ∧ ∃ v, a' = a.put o.dst v ∧ G i v w') Q := by
  unfold Oper.wp
  rw [hr]
  refine hc.mono ?_
  rintro e w' ⟨v, rfl, hb, hG⟩
  exact ⟨hb, v, rfl, hG⟩
end
end Go.Proofs.Ytlhegejfaihgmaa.M
