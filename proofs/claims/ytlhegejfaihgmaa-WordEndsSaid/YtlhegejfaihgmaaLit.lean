/-
  A region that draws its order and fills a map literal: whatever the order, the map has just the literal's entries, and every temporary has the value that the text gives it. Conditions: each operation is 'makeMap', an 'insert' into that map, or yields a value that hangs on no order.
-/
import Derived.WalkKit
import Derived.Maps.Own
namespace Go.Proofs.Ytlhegejfaihgmaa.Lit
open Go.ChangeMaps (setBlock)
open Go.Maps (Keyed)

section
variable {P : Program} {ops : Array Oper} {Q : Exit → Act → World → Prop}

theorem count_set {l : List Bool} {i : Nat} (h : l[i]? = some false) : (l.set i true).count false + 1 = l.count false := by
  induction l generalizing i with
  | nil => simp at h
  | cons x r ih =>
    cases i with
    | zero =>
      simp only [List.getElem?_cons_zero, Option.some.injEq] at h
      subst h
      simp
    | succ i =>
      simp only [List.getElem?_cons_succ] at h
      have := ih h
      simp only [List.set_cons_succ, List.count_cons]
      omega

theorem ready_none {listed : Array Bool} (hs : listed.size = ops.size) (hc : listed.toList.count false = 0) : Region.ready .any ops listed = [] := by
  rw [List.eq_nil_iff_forall_not_mem]
  intro i hi
  obtain ⟨h0, o, ho, _⟩ := mem_ready.1 hi
  have hlt : i < listed.size := by rw [hs]; exact (Array.getElem?_eq_some_iff.1 ho).1
  have hm : false ∈ listed.toList := by
    rw [Array.getD_eq_getD_getElem?, Array.getElem?_eq_getElem hlt] at h0
    simp only [Option.getD_some] at h0
    rw [← h0]
    simp
  have := List.count_pos_iff.2 hm
  omega

/-- An invariant that every operation keeps, in whatever order. -/
theorem wpAny_inv (Inv : Array Bool → Act → World → Prop)
    (hstep : ∀ (listed : Array Bool) (a : Act) (w : World) (i : Nat), listed.size = ops.size → Inv listed a w → i ∈ Region.ready .any ops listed →
      wpOp P ops Q i (Inv (listed.setIfInBounds i true)) a w)
    (hend : ∀ (listed : Array Bool) (a : Act) (w : World), listed.size = ops.size → Inv listed a w → Region.ready .any ops listed = [] → Q .normal a w) :
    ∀ (fuel : Nat) (listed : Array Bool) (a : Act) (w : World), listed.size = ops.size → listed.toList.count false ≤ fuel → Inv listed a w →
      wpAny P .any ops Q fuel listed a w := by
  intro fuel
  induction fuel with
  | zero =>
    intro listed a w hs hc hI
    have hr := ready_none hs (Nat.le_zero.1 hc)
    exact ⟨hr, hend listed a w hs hI hr⟩
  | succ fuel ih =>
    intro listed a w hs hc hI
    refine ⟨fun hr => hend listed a w hs hI hr, fun i hi => ?_⟩
    refine wpOp_mono (fun a' w' hI' => ih _ a' w' (by simpa using hs) ?_ hI') (hstep listed a w i hs hI hi)
    obtain ⟨h0, o, ho, _⟩ := mem_ready.1 hi
    have hlt : i < listed.size := by rw [hs]; exact (Array.getElem?_eq_some_iff.1 ho).1
    have hf : listed.toList[i]? = some false := by
      rw [Array.getD_eq_getD_getElem?, Array.getElem?_eq_getElem hlt] at h0
      simp only [Option.getD_some] at h0
      rw [List.getElem?_eq_getElem (by simpa using hlt)]
      simpa using h0
    have := count_set hf
    simp only [Array.toList_setIfInBounds]
    omega

theorem any_inv {a : Act} {w : World} (Inv : Array Bool → Act → World → Prop)
    (h0 : Inv (Array.replicate ops.size false) a w)
    (hstep : ∀ (listed : Array Bool) (a : Act) (w : World) (i : Nat), listed.size = ops.size → Inv listed a w → i ∈ Region.ready .any ops listed →
      wpOp P ops Q i (Inv (listed.setIfInBounds i true)) a w)
    (hend : ∀ (listed : Array Bool) (a : Act) (w : World), listed.size = ops.size → Inv listed a w → Region.ready .any ops listed = [] → Q .normal a w) :
    wpAny P .any ops Q ops.size (Array.replicate ops.size false) a w :=
  wpAny_inv Inv hstep hend _ _ _ _ (by simp) (by simp) h0

/-- The order of the text is one of the orders. -/
theorem wpOps_of_any (hlex : ∀ (i : Nat) (o : Oper), ops[i]? = some o → ∀ e ∈ o.after, Region.binds .any e = true → e.on < i) :
    ∀ (n k : Nat) (listed : Array Bool) (a : Act) (w : World), k + n = ops.size → listed.size = ops.size → (∀ i, listed.getD i false = true ↔ i < k) →
      wpAny P .any ops Q n listed a w → wpOps P ops Q (List.range' k n) a w := by
  intro n
  induction n with
  | zero =>
    intro k listed a w hk hs hl h
    simpa [wpOps] using h.2
  | succ n ih =>
    intro k listed a w hk hs hl h
    rw [List.range'_succ, wpOps_cons]
    have hko : k < ops.size := by omega
    have hmem : k ∈ Region.ready .any ops listed := by
      refine mem_ready.2 ⟨?_, ops[k], Array.getElem?_eq_getElem hko, fun e he hb => (hl e.on).2 (hlex k ops[k] (Array.getElem?_eq_getElem hko) e he hb)⟩
      have hkl : k < listed.size := by omega
      have h0 : listed.getD k false ≠ true := fun e => by have := (hl k).1 e; omega
      rw [Array.getD_eq_getD_getElem?, Array.getElem?_eq_getElem hkl] at h0 ⊢
      simpa using h0
    refine wpOp_mono (fun a' w' h' => ih (k + 1) _ a' w' (by omega) (by simpa using hs) (fun i => ?_) h') (h.2 k hmem)
    have hkl : k < listed.size := by omega
    by_cases e : i = k
    · subst e; simp [hkl]
    · rw [getD_set_ne false (Ne.symm e), hl i]; omega

/-- Where each operation waits on earlier ones alone, and none is ready, all have come up. -/
theorem all_listed {listed : Array Bool} (hs : listed.size = ops.size)
    (hlex : ∀ (i : Nat) (o : Oper), ops[i]? = some o → ∀ e ∈ o.after, Region.binds .any e = true → e.on < i)
    (hr : Region.ready .any ops listed = []) : ∀ i, i < ops.size → listed.getD i false = true := by
  intro i
  induction i using Nat.strongRecOn with
  | ind i ih =>
    intro hi
    cases hl : listed.getD i false with
    | true => rfl
    | false =>
      exfalso
      have hmem : i ∈ Region.ready .any ops listed := by
        refine mem_ready.2 ⟨?_, ops[i], Array.getElem?_eq_getElem hi, fun e he hb => ?_⟩
        · have hlt : i < listed.size := by omega
          rw [Array.getD_eq_getD_getElem?, Array.getElem?_eq_getElem hlt] at hl ⊢
          simpa using hl
        · have := hlex i ops[i] (Array.getElem?_eq_getElem hi) e he hb
          exact ih e.on this (by omega)
      rw [hr] at hmem
      cases hmem
end

theorem setBlock_alloc (w : World) (o o' : Obj) : setBlock (w.alloc o) w.heap.size o' = w.alloc o' := by
  unfold setBlock World.alloc
  congr 1
  apply Array.ext_getElem?
  intro i
  by_cases h : i = w.heap.size
  · subst h; simp
  · by_cases h2 : i < w.heap.size
    · simp [Array.getElem?_push, h, Array.getElem?_setIfInBounds_ne (Ne.symm h)]
    · simp [Array.getElem?_push, h, Array.getElem?_setIfInBounds_ne (Ne.symm h)]

/-! ### the literal -/

/-- A map's entries are just those of a table. -/
def Has (tab : List (Value × Value)) (es : Array MapEntry) : Prop :=
  (∀ e ∈ es.toList, (e.key, e.val) ∈ tab) ∧ ∀ p ∈ tab, ∃ e ∈ es.toList, e.key = p.1 ∧ e.val = p.2

theorem run_insert {P : Program} {T K E : TypeId} (KD : Keyed P K) (hT : P.underlying T = some (.map K E)) {w : World} {b : Nat} {es : Array MapEntry} {clock : Nat}
    (hb : w.heap[b]? = some (.map es clock)) (hkeys : ∀ e ∈ es.toList, ∃ l, keyOf P K e.key = some l) {key val : Value} {kl : Lit} (hk : keyOf P K key = some kl)
    (hne : ∀ e ∈ es.toList, e.key ≠ key) :
    (Instr.mapUpdate T (.map (some b)) key val).run P w = .ok () (setBlock w b (.map (es.push ⟨key, val, clock⟩) (clock + 1))) := by
  rcases KD.find w hk es.toList hkeys with ⟨h1, _⟩ | ⟨j, e0, _, h2, h3⟩
  · simp [Instr.mapUpdate, run_underlying hT, MapKept.run_getObj_map hb, KD.check w false hk, h1, MapKept.run_setObj_map _ hb, Result.andThen, setBlock]
  · exact absurd h3 (hne e0 (List.mem_of_getElem? h2))

/-- 'v, ok := m[k]' of a literal's map. -/
theorem run_look {P : Program} {T K E : TypeId} (KD : Keyed P K) (hT : P.underlying T = some (.map K E)) {w : World} {b : Nat} {es : Array MapEntry} {clock : Nat}
    {z : Value} (hz : (zeroValue E).run P w = .ok z w)
    (hb : w.heap[b]? = some (.map es clock)) {tab : List (Value × Value)} (hh : Has tab es) (hkeys : ∀ p ∈ tab, ∃ l, keyOf P K p.1 = some l) {key : Value} {kl : Lit} (hk : keyOf P K key = some kl) (c : Bool) :
    (∃ v, (key, v) ∈ tab ∧ (Instr.lookup T (.map (some b)) key c).run P w = .ok (if c then .tuple #[v, .bool true] else v) w) ∨
    ((∀ v, (key, v) ∉ tab) ∧ (Instr.lookup T (.map (some b)) key c).run P w = .ok (if c then .tuple #[z, .bool false] else z) w) := by
  have hes : ∀ e ∈ es.toList, ∃ l, keyOf P K e.key = some l := fun e he => hkeys (e.key, e.val) (hh.1 e he)
  rcases KD.find w hk es.toList hes with ⟨h1, h2⟩ | ⟨j, e0, h1, h2, h3⟩
  · refine .inr ⟨fun v hv => ?_, by simp [Instr.lookup, run_underlying hT, MapKept.run_getObj_map hb, KD.check w _ hk, h1, hz, Result.andThen]⟩
    obtain ⟨e, he, hek, _⟩ := hh.2 _ hv
    exact h2 e he hek
  · refine .inl ⟨e0.val, ?_, by simp [Instr.lookup, run_underlying hT, MapKept.run_getObj_map hb, KD.check w _ hk, h1, Result.andThen]⟩
    have := hh.1 e0 (List.mem_of_getElem? h2)
    rw [h3] at this
    exact this

/-- The look-up at the operation: the way on which the key is the table's, and the one on which it is none. -/
theorem wpList_look {P : Program} (w : World) {ops : Array Oper} {rest : List Oper} {o : Oper} {a : Act} {Q : Exit → Act → World → Prop}
    (hg : o.guard = none) (m x : Operand) (T : TypeId) (c : Bool) (hop : o.op = Op.lookup T m x c) (K E : TypeId) (KD : Keyed P K) (hT : P.underlying T = some (.map K E)) (z : Value) (hz : (zeroValue E).run P w = .ok z w)
    (b : Nat) (es : Array MapEntry) (clock : Nat) (hm : a.eval m = .map (some b)) (hb : w.heap[b]? = some (.map es clock)) (tab : List (Value × Value)) (hh : Has tab es)
    (hkeys : tab.all (fun p => (keyOf P K p.1).isSome) = true) (key : Value) (hx : a.eval x = key) (hkey : (keyOf P K key).isSome = true)
    (hyes : RowKit.Hid (∀ v, (key, v) ∈ tab → wpList P ops Q rest (a.put o.dst (if c then .tuple #[v, .bool true] else v)) w))
    (hno : RowKit.Hid ((∀ v, (key, v) ∉ tab) → wpList P ops Q rest (a.put o.dst (if c then .tuple #[z, .bool false] else z)) w)) : wpList P ops Q (o :: rest) a w := by
  refine wpList_plain hg fun K' hK' => ?_
  obtain ⟨kl, hkl⟩ := Option.isSome_iff_exists.1 hkey
  unfold Oper.wp
  rcases run_look KD hT hz hb hh (fun p hp => Option.isSome_iff_exists.1 (List.all_eq_true.1 hkeys p hp)) hkl c with ⟨v, hv, hr⟩ | ⟨hn, hr⟩
  · simp only [execOp, hop, hm, hx, Sem.run_bind, hr, Result.andThen]
    exact hK' _ _ (hyes v hv)
  · simp only [execOp, hop, hm, hx, Sem.run_bind, hr, Result.andThen]
    exact hK' _ _ (hno hn)

section
variable {P : Program} {ops : Array Oper} {Q : Exit → Act → World → Prop}

/-- What is asked of the region's shape (for the kernel): no guard, no select; each waits on earlier ones alone; a temporary is written once, and whoever looks at it waits on its writer. -/
def shapeB (ops : Array Oper) : Bool :=
  (List.range ops.size).all fun i => match ops[i]? with
    | none => false
    | some o =>
      o.guard.isNone && (match o.op with | .select .. => false | _ => true) &&
      o.after.all (fun e => !Region.binds .any e || decide (e.on < i)) &&
      (List.range ops.size).all fun j => match ops[j]? with
        | none => false
        | some oj => match oj.dst with
          | none => true
          | some d => (j == i || o.dst != some d) &&
              o.op.operands.all fun x => match x with
                | .tmp t => t != d || o.after.any (fun e => Region.binds .any e && e.on == j)
                | _ => true

theorem shape_guard (h : shapeB ops = true) {i : Nat} {o : Oper} (ho : ops[i]? = some o) : o.guard = none := by
  have hi := (Array.getElem?_eq_some_iff.1 ho).1
  have := List.all_eq_true.1 h i (by simpa using hi)
  simp only [ho, Bool.and_eq_true] at this
  simpa using this.1.1.1

theorem shape_select (h : shapeB ops = true) {i : Nat} {o : Oper} (ho : ops[i]? = some o) (cs : Array SelectCase) (b : Bool) : o.op ≠ .select cs b := by
  have hi := (Array.getElem?_eq_some_iff.1 ho).1
  have := List.all_eq_true.1 h i (by simpa using hi)
  simp only [ho, Bool.and_eq_true] at this
  intro e
  have h2 := this.1.1.2
  rw [e] at h2
  cases h2

theorem shape_lex (h : shapeB ops = true) {i : Nat} {o : Oper} (ho : ops[i]? = some o) : ∀ e ∈ o.after, Region.binds .any e = true → e.on < i := by
  have hi := (Array.getElem?_eq_some_iff.1 ho).1
  have := List.all_eq_true.1 h i (by simpa using hi)
  simp only [ho, Bool.and_eq_true] at this
  intro e he hb
  have h2 := Array.all_eq_true_iff_forall_mem.1 this.1.2 e he
  simpa [hb] using h2

theorem shape_pair (h : shapeB ops = true) {i j : Nat} {o oj : Oper} (ho : ops[i]? = some o) (hoj : ops[j]? = some oj) {d : Tmp} (hd : oj.dst = some d) :
    (j ≠ i → o.dst ≠ some d) ∧ (Operand.tmp d ∈ o.op.operands → ∃ e ∈ o.after, Region.binds .any e = true ∧ e.on = j) := by
  have hi := (Array.getElem?_eq_some_iff.1 ho).1
  have hj := (Array.getElem?_eq_some_iff.1 hoj).1
  have := List.all_eq_true.1 h i (by simpa using hi)
  simp only [ho, Bool.and_eq_true] at this
  have h2 := List.all_eq_true.1 this.2 j (by simpa using hj)
  simp only [hoj, hd, Bool.and_eq_true, Bool.or_eq_true, beq_iff_eq, bne_iff_ne] at h2
  refine ⟨fun hne => h2.1.resolve_left hne, fun hm => ?_⟩
  have h3 := Array.all_eq_true_iff_forall_mem.1 h2.2 _ hm
  simp only [bne_self_eq_false, Bool.false_or] at h3
  obtain ⟨e, he, hb⟩ := Array.any_eq_true'.1 h3
  simp only [Bool.and_eq_true, beq_iff_eq] at hb
  exact ⟨e, he, hb.1, hb.2⟩

/-- The worlds in which an operation of the literal is carried out: ahead of 'makeMap', and behind it. -/
def Mid (w : World) (W : World) : Prop := W = w ∨ ∃ es clock, W = w.alloc (.map es clock)

/-- Does an operation wait, itself or by one between, on every insert? -/
def seesB (ops : Array Oper) (i : Nat) (tab : List (Nat × Value × Value)) : Bool :=
  match ops[i]? with
  | none => false
  | some o => tab.all fun p => o.after.any fun e => Region.binds .any e && (e.on == p.1 || match ops[e.on]? with
    | none => false
    | some x => x.after.any fun e => Region.binds .any e && e.on == p.1)

/-- What has come up has what it waits on behind it. -/
def Closed (ops : Array Oper) (listed : Array Bool) : Prop := ∀ (j : Nat) (oj : Oper), ops[j]? = some oj → listed.getD j false = true → ∀ e ∈ oj.after, Region.binds .any e = true → listed.getD e.on false = true

theorem sees_listed {ops : Array Oper} {listed : Array Bool} (hc : Closed ops listed) {i : Nat} {o : Oper} (ho : ops[i]? = some o) {tab : List (Nat × Value × Value)} (hs : seesB ops i tab = true)
    (hall : ∀ e ∈ o.after, Region.binds .any e = true → listed.getD e.on false = true) : ∀ p ∈ tab, listed.getD p.1 false = true := by
  intro p hp
  simp only [seesB, ho] at hs
  have h1 := List.all_eq_true.1 hs p hp
  obtain ⟨e, he, hb⟩ := Array.any_eq_true'.1 h1
  simp only [Bool.and_eq_true, Bool.or_eq_true, beq_iff_eq] at hb
  obtain ⟨hb1, hb2 | hb2⟩ := hb
  · exact hb2 ▸ hall e he hb1
  · have hl := hall e he hb1
    split at hb2
    · cases hb2
    · rename_i x hx
      obtain ⟨e', he', hb'⟩ := Array.any_eq_true'.1 hb2
      simp only [Bool.and_eq_true, beq_iff_eq] at hb'
      exact hb'.2 ▸ hc e.on x hx hl e' he' hb'.1

/-- What is asked of an operation: of 'makeMap' · of one that yields a value · of an 'insert' · of one that looks at the whole map. -/
def OpOk (P : Program) (ops : Array Oper) (w : World) (aF : Act) (T : TypeId) (m dm : Nat) (tab : List (Nat × Value × Value)) (i : Nat) (o : Oper) : Prop :=
  (i = m ∧ o.op = .makeMap T none ∧ o.dst = some dm) ∨
  (i ≠ m ∧ (∃ d, o.dst = some d ∧ (∀ W, Mid w W → (execOp aF.eval o).run P W = .ok (.value (aF.tmps.getD d undef)) W))) ∨
  (i ≠ m ∧ o.dst = none ∧ ∃ k v, o.op = .insert T (.tmp dm) k v ∧ (i, aF.eval k, aF.eval v) ∈ tab) ∨
  (i ≠ m ∧ seesB ops i tab = true ∧ ∃ d, o.dst = some d ∧ ∀ es clock, Has (tab.map (·.2)) es →
    (execOp aF.eval o).run P (w.alloc (.map es clock)) = .ok (.value (aF.tmps.getD d undef)) (w.alloc (.map es clock)))

/-- Is a temporary written by an operation that has come up? -/
def Written (ops : Array Oper) (listed : Array Bool) (t : Tmp) : Prop := ∃ (j : Nat) (oj : Oper), ops[j]? = some oj ∧ oj.dst = some t ∧ listed.getD j false = true

def InvLit (ops : Array Oper) (a0 aF : Act) (w : World) (m : Nat) (tab : List (Nat × Value × Value)) (listed : Array Bool) (a : Act) (W : World) : Prop :=
  Closed ops listed ∧ a.defers = a0.defers ∧ a.tmps.size = a0.tmps.size ∧ (∀ t, Written ops listed t → a.tmps[t]? = aF.tmps[t]?) ∧ (∀ t, ¬ Written ops listed t → a.tmps[t]? = a0.tmps[t]?) ∧
  ((listed.getD m false = false ∧ W = w ∧ ∀ p ∈ tab, listed.getD p.1 false = false) ∨
    (listed.getD m false = true ∧ ∃ es clock, W = w.alloc (.map es clock) ∧ (∀ e ∈ es.toList, ∃ i, (i, e.key, e.val) ∈ tab ∧ listed.getD i false = true) ∧
      ∀ p ∈ tab, listed.getD p.1 false = true → ∃ e ∈ es.toList, e.key = p.2.1 ∧ e.val = p.2.2))

theorem getD_set {listed : Array Bool} {i j : Nat} (hi : i < listed.size) : (listed.setIfInBounds i true).getD j false = true ↔ j = i ∨ listed.getD j false = true := by
  by_cases h : j = i
  · subst h; simp [hi]
  · simp [h, getD_set_ne false (Ne.symm h)]

theorem written_set {listed : Array Bool} {i : Nat} {o : Oper} (hi : i < listed.size) (ho : ops[i]? = some o) {t : Tmp} :
    Written ops (listed.setIfInBounds i true) t ↔ o.dst = some t ∨ Written ops listed t := by
  constructor
  · rintro ⟨j, oj, h1, h2, h3⟩
    rcases (getD_set hi).1 h3 with rfl | h
    · rw [ho] at h1; cases h1; exact .inl h2
    · exact .inr ⟨j, oj, h1, h2, h⟩
  · rintro (h | ⟨j, oj, h1, h2, h3⟩)
    · exact ⟨i, o, ho, h, (getD_set hi).2 (.inl rfl)⟩
    · exact ⟨j, oj, h1, h2, (getD_set hi).2 (.inr h3)⟩

theorem any_lit {a0 aF : Act} {w : World} {T K E : TypeId} (hsh : shapeB ops = true) (KD : Keyed P K)
    (hT : P.underlying T = some (.map K E)) (m dm : Nat) (hmm : m < ops.size) (tab : List (Nat × Value × Value)) (htab0 : tab ≠ []) (htabk : ∀ p ∈ tab, ∃ l, keyOf P K p.2.1 = some l)
    (htabd : ∀ p ∈ tab, ∀ q ∈ tab, p.2.1 = q.2.1 → p.1 = q.1)
    (htabf : ∀ p ∈ tab, ∀ q ∈ tab, p.1 = q.1 → p = q) (htabm : ∀ p ∈ tab, p.1 ≠ m) (htabs : ∀ p ∈ tab, ∃ o, ops[p.1]? = some o ∧ o.dst = none)
    (hdef : aF.defers = a0.defers) (hsz : aF.tmps.size = a0.tmps.size)
    (hdst : ∀ (i : Nat) (o : Oper) (d : Tmp), ops[i]? = some o → o.dst = some d → d < a0.tmps.size)
    (hrest : ∀ t, t < a0.tmps.size → (∀ (j : Nat) (oj : Oper), ops[j]? = some oj → oj.dst ≠ some t) → aF.tmps[t]? = a0.tmps[t]?)
    (hmap : aF.tmps.getD dm undef = .map (some w.heap.size))
    (hops : ∀ (i : Nat) (o : Oper), ops[i]? = some o → OpOk P ops w aF T m dm tab i o)
    (hQ : ∀ es clock, Has (tab.map (·.2)) es → Q .normal aF (w.alloc (.map es clock))) :
    wpAny P .any ops Q ops.size (Array.replicate ops.size false) a0 w := by
  refine any_inv (InvLit ops a0 aF w m tab) ?_ ?_ ?_
  · have hnw : ∀ t, ¬ Written ops (Array.replicate ops.size false) t := by
      rintro t ⟨j, oj, h1, _, h3⟩
      have hj := (Array.getElem?_eq_some_iff.1 h1).1
      simp [hj] at h3
    exact ⟨fun j oj hj hl => by
        have hj' := (Array.getElem?_eq_some_iff.1 hj).1
        simp [hj'] at hl, rfl, rfl, fun t h => absurd h (hnw t), fun t _ => rfl, 
      .inl ⟨by simp [hmm], rfl, fun p hp => by
        obtain ⟨o, ho, _⟩ := htabs p hp
        simp [(Array.getElem?_eq_some_iff.1 ho).1]⟩⟩
  · intro listed a W i hs hI hi
    obtain ⟨hcl, hd, hz, hw1, hw2, hW⟩ := hI
    obtain ⟨hun, o, ho, hall⟩ := mem_ready.1 hi
    have hio := (Array.getElem?_eq_some_iff.1 ho).1
    have hil : i < listed.size := by omega
    have hunF : listed.getD i false = false := by
      rw [Array.getD_eq_getD_getElem?, Array.getElem?_eq_getElem hil] at hun ⊢
      simpa using hun
    have hcl' : Closed ops (listed.setIfInBounds i true) := by
      intro j oj hj hl e he hb
      rcases (getD_set hil).1 hl with rfl | h
      · rw [ho] at hj
        cases hj
        exact (getD_set hil).2 (.inr (hall e he hb))
      · exact (getD_set hil).2 (.inr (hcl j oj hj h e he hb))
    -- what is looked at has its last value
    have hev : ∀ x ∈ o.op.operands, a.eval x = aF.eval x := by
      intro x hx
      cases x with
      | tmp t =>
        have key : a.tmps[t]? = aF.tmps[t]? := by
          by_cases hwr : Written ops listed t
          · exact hw1 t hwr
          · rw [hw2 t hwr]
            by_cases ht : t < a0.tmps.size
            · refine (hrest t ht fun j oj hj hdj => hwr ?_).symm
              obtain ⟨e, he, hb, hej⟩ := (shape_pair hsh ho hj hdj).2 hx
              exact ⟨j, oj, hj, hdj, hej ▸ hall e he hb⟩
            · have ht' : a0.tmps.size ≤ t := Nat.le_of_not_lt ht
              rw [Array.getElem?_eq_none (xs := a0.tmps) ht', Array.getElem?_eq_none (xs := aF.tmps) (Nat.le_trans (Nat.le_of_eq hsz) ht')]
        simp [Act.eval, key]
      | _ => rfl
    have hex : execOp a.eval o = execOp aF.eval o := execOp_congr o (shape_select hsh ho) hev
    have hwant : Region.wanted o (yielded ops a.tmps) = true := by simp [Region.wanted, shape_guard hsh ho]
    have hmst : i ≠ m → seesB ops i tab = true → listed.getD m false = true := by
      intro _ hsee
      have hlis := sees_listed hcl ho hsee hall
      obtain ⟨p, hp⟩ := List.exists_mem_of_ne_nil tab htab0
      obtain ⟨op, hop, hn⟩ := htabs p hp
      obtain ⟨om, hom⟩ : ∃ om, ops[m]? = some om := ⟨_, Array.getElem?_eq_getElem hmm⟩
      have hdm : om.dst = some dm := by
        rcases hops m om hom with ⟨_, _, h⟩ | ⟨h, _⟩ | ⟨h, _⟩ | ⟨h, _⟩
        · exact h
        · exact absurd rfl h
        · exact absurd rfl h
        · exact absurd rfl h
      have hpi : Operand.tmp dm ∈ op.op.operands := by
        rcases hops p.1 op hop with ⟨h, _⟩ | ⟨_, d, h, _⟩ | ⟨_, _, k, v, h, _⟩ | ⟨_, _, d, h, _⟩
        · exact absurd h (htabm p hp)
        · rw [hn] at h; cases h
        · rw [h]; simp [Op.operands]
        · rw [hn] at h; cases h
      obtain ⟨e, he, hb, hej⟩ := (shape_pair hsh hop hom hdm).2 hpi
      exact hej ▸ hcl p.1 op hop (hlis p hp) e he hb
    have hput : ∀ (d : Tmp), o.dst = some d → d < a0.tmps.size := fun d h => hdst i o d ho h
    -- the frame behind a value
    have hframe : ∀ (d : Tmp) (v : Value), o.dst = some d → aF.tmps.getD d undef = v →
        Closed ops (listed.setIfInBounds i true) ∧ (a.put o.dst v).defers = a0.defers ∧ (a.put o.dst v).tmps.size = a0.tmps.size ∧
        (∀ t, Written ops (listed.setIfInBounds i true) t → (a.put o.dst v).tmps[t]? = aF.tmps[t]?) ∧
        (∀ t, ¬ Written ops (listed.setIfInBounds i true) t → (a.put o.dst v).tmps[t]? = a0.tmps[t]?) := by
      intro d v hd' hv
      have hdl := hput d hd'
      simp only [hd', Act.put]
      refine ⟨hcl', hd, by simpa using hz, fun t ht => ?_, fun t ht => ?_⟩
      · by_cases e : d = t
        · subst e
          have h1 : d < a.tmps.size := Nat.lt_of_lt_of_eq hdl hz.symm
          have h2 : d < aF.tmps.size := Nat.lt_of_lt_of_eq hdl hsz.symm
          rw [Array.getElem?_setIfInBounds_self_of_lt h1, ← hv, Array.getD_eq_getD_getElem?, Array.getElem?_eq_getElem h2]
          simp
        · rw [Array.getElem?_setIfInBounds_ne e]
          rcases (written_set hil ho).1 ht with h | h
          · rw [hd'] at h; cases h; exact absurd rfl e
          · exact hw1 t h
      · by_cases e : d = t
        · subst e; exact absurd ((written_set hil ho).2 (.inl hd')) ht
        · rw [Array.getElem?_setIfInBounds_ne e]
          exact hw2 t fun h => ht ((written_set hil ho).2 (.inr h))
    unfold wpOp
    simp only [ho, hwant, if_true]
    refine .inl ?_
    unfold Oper.wp
    rw [hex]
    rcases hops i o ho with ⟨rfl, hop, hdm⟩ | ⟨hne, d, hd', hrun⟩ | ⟨hne, hd', k, v, hop, hin⟩ | ⟨hne, hsee, d, hd', hrun⟩
    · -- makeMap
      rcases hW with ⟨hmf, hWe, hno⟩ | ⟨hmt, _⟩
      · obtain rfl : w = W := hWe.symm
        have hr : (execOp aF.eval o).run P w = .ok (.value (.map (some w.heap.size))) (w.alloc (.map #[] 0)) := by
          unfold execOp; rw [hop]; rfl
        rw [hr]
        obtain ⟨f0, f1, f2, f3, f4⟩ := hframe dm (.map (some w.heap.size)) hdm hmap
        refine ⟨f0, f1, f2, f3, f4, .inr ⟨(getD_set hil).2 (.inl rfl), #[], 0, rfl, fun e he => by simp at he, fun p hp hl => ?_⟩⟩
        exfalso
        rcases (getD_set hil).1 hl with h | h
        · exact htabm p hp h
        · rw [hno p hp] at h; cases h
      · rw [hunF] at hmt; cases hmt
    · -- a value
      have hnt : ∀ p ∈ tab, p.1 ≠ i := fun p hp he => by
        obtain ⟨o', ho', hn⟩ := htabs p hp
        rw [he, ho] at ho'
        cases ho'
        rw [hd'] at hn
        cases hn
      have hmid : Mid w W := by
        rcases hW with ⟨_, hWe, _⟩ | ⟨_, es, clock, rfl, _⟩
        · exact .inl hWe
        · exact .inr ⟨es, clock, rfl⟩
      rw [hrun W hmid]
      obtain ⟨f0, f1, f2, f3, f4⟩ := hframe d _ hd' rfl
      refine ⟨f0, f1, f2, f3, f4, ?_⟩
      have hkeep : ∀ j, j ≠ i → (listed.setIfInBounds i true).getD j false = listed.getD j false := fun j hj => getD_set_ne false (Ne.symm hj)
      rcases hW with ⟨hmf, hWe, hno⟩ | ⟨hmt, es, clock, rfl, h1, h2⟩
      · exact .inl ⟨by rw [hkeep m (Ne.symm hne)]; exact hmf, hWe, fun p hp => by rw [hkeep p.1 (hnt p hp)]; exact hno p hp⟩
      · refine .inr ⟨by rw [hkeep m (Ne.symm hne)]; exact hmt, es, clock, rfl, fun e he => ?_, fun p hp hl => ?_⟩
        · obtain ⟨j, hj, hl⟩ := h1 e he
          exact ⟨j, hj, (getD_set hil).2 (.inr hl)⟩
        · rw [hkeep p.1 (hnt p hp)] at hl
          exact h2 p hp hl
    · -- an insert
      have hmt : listed.getD m false = true := by
        obtain ⟨om, hom⟩ : ∃ om, ops[m]? = some om := ⟨_, Array.getElem?_eq_getElem hmm⟩
        have hdm : om.dst = some dm := by
          rcases hops m om hom with ⟨_, _, h⟩ | ⟨h, _⟩ | ⟨h, _⟩ | ⟨h, _⟩
          · exact h
          · exact absurd rfl h
          · exact absurd rfl h
          · exact absurd rfl h
        obtain ⟨e, he, hb, hej⟩ := (shape_pair hsh ho hom hdm).2 (by rw [hop]; simp [Op.operands])
        exact hej ▸ hall e he hb
      rcases hW with ⟨hmf, _⟩ | ⟨_, es, clock, rfl, h1, h2⟩
      · rw [hmf] at hmt; cases hmt
      have hb : (w.alloc (.map es clock)).heap[w.heap.size]? = some (.map es clock) := Array.getElem?_push_size
      have hkeys : ∀ e ∈ es.toList, ∃ l, keyOf P K e.key = some l := fun e he => by
        obtain ⟨j, hj, _⟩ := h1 e he
        exact htabk _ hj
      obtain ⟨kl, hkl⟩ := htabk _ hin
      have hnew : ∀ e ∈ es.toList, e.key ≠ aF.eval k := fun e he hek => by
        obtain ⟨j, hj, hjl⟩ := h1 e he
        have := htabd _ hj _ hin hek
        simp only at this
        rw [this, hunF] at hjl; cases hjl
      have hr : (execOp aF.eval o).run P (w.alloc (.map es clock)) = .ok .skip (w.alloc (.map (es.push ⟨aF.eval k, aF.eval v, clock⟩) (clock + 1))) := by
        have hmv : aF.eval (.tmp dm) = .map (some w.heap.size) := hmap
        have h4 := run_insert KD hT hb hkeys hkl hnew (val := aF.eval v)
        have h5 : setBlock (w.alloc (.map es clock)) w.heap.size (.map (es.push ⟨aF.eval k, aF.eval v, clock⟩) (clock + 1)) = w.alloc (.map (es.push ⟨aF.eval k, aF.eval v, clock⟩) (clock + 1)) := by
          exact setBlock_alloc _ _ _
        simp only at h4
        rw [h5] at h4
        unfold execOp
        rw [hop]
        simp only [hmv, Sem.run_bind, h4]
        rfl
      rw [hr]
      have hsame : ∀ t, Written ops (listed.setIfInBounds i true) t ↔ Written ops listed t := fun t => by
        rw [written_set hil ho]; simp [hd']
      refine ⟨hcl', by simp only [hd', Act.put]; exact hd, by simp only [hd', Act.put]; exact hz, fun t ht => by simp only [hd', Act.put]; exact hw1 t ((hsame t).1 ht),
        fun t ht => by simp only [hd', Act.put]; exact hw2 t fun h => ht ((hsame t).2 h), .inr ⟨(getD_set hil).2 (.inr hmt), _, _, rfl, fun e he => ?_, fun p hp hl => ?_⟩⟩
      · simp only [Array.toList_push, List.mem_append, List.mem_singleton] at he
        rcases he with he | rfl
        · obtain ⟨j, hj, hjl⟩ := h1 e he
          exact ⟨j, hj, (getD_set hil).2 (.inr hjl)⟩
        · exact ⟨i, hin, (getD_set hil).2 (.inl rfl)⟩
      · rcases (getD_set hil).1 hl with h | h
        · have := htabf p hp _ hin h
          subst this
          exact ⟨⟨aF.eval k, aF.eval v, clock⟩, by simp, rfl, rfl⟩
        · obtain ⟨e, he, e1, e2⟩ := h2 p hp h
          exact ⟨e, by simp [he], e1, e2⟩
    · -- a look at the whole map
      have hlis := sees_listed hcl ho hsee hall
      have hmt : listed.getD m false = true := hmst hne hsee
      rcases hW with ⟨hmf, _⟩ | ⟨_, es, clock, rfl, h1, h2⟩
      · rw [hmf] at hmt; cases hmt
      have hhas : Has (tab.map (·.2)) es := ⟨fun e he => by
          obtain ⟨j, hj, _⟩ := h1 e he
          exact List.mem_map.2 ⟨_, hj, rfl⟩, fun p hp => by
          obtain ⟨q, hq, rfl⟩ := List.mem_map.1 hp
          exact h2 q hq (hlis q hq)⟩
      rw [hrun es clock hhas]
      obtain ⟨f0, f1, f2, f3, f4⟩ := hframe d _ hd' rfl
      refine ⟨f0, f1, f2, f3, f4, .inr ⟨(getD_set hil).2 (.inr hmt), es, clock, rfl, fun e he => ?_, fun p hp _ => h2 p hp (hlis p hp)⟩⟩
      obtain ⟨j, hj, hl⟩ := h1 e he
      exact ⟨j, hj, (getD_set hil).2 (.inr hl)⟩
  · intro listed a W hs hI hr
    obtain ⟨_, hd, hz, hw1, hw2, hW⟩ := hI
    have hal := all_listed hs (fun i o ho => shape_lex hsh ho) hr
    have ha : a = aF := by
      cases a with
      | mk t1 d1 =>
        cases aF with
        | mk t2 d2 =>
          simp only [Act.mk.injEq]
          refine ⟨Array.ext_getElem? fun t => ?_, hd.trans hdef.symm⟩
          by_cases hwr : Written ops listed t
          · exact hw1 t hwr
          · have := hw2 t hwr
            simp only at this hz hsz hrest
            rw [this]
            by_cases ht : t < a0.tmps.size
            · exact (hrest t ht fun j oj hj hdj => hwr ⟨j, oj, hj, hdj, hal j (Array.getElem?_eq_some_iff.1 hj).1⟩).symm
            · rw [Array.getElem?_eq_none (by omega), Array.getElem?_eq_none (by omega)]
    subst ha
    rcases hW with ⟨hmf, _⟩ | ⟨_, es, clock, rfl, h1, h2⟩
    · rw [hal m hmm] at hmf; cases hmf
    · refine hQ es clock ⟨fun e he => ?_, fun p hp => ?_⟩
      · obtain ⟨i, hi, _⟩ := h1 e he
        exact List.mem_map.2 ⟨_, hi, rfl⟩
      · obtain ⟨q, hq, rfl⟩ := List.mem_map.1 hp
        obtain ⟨o, ho, _⟩ := htabs q hq
        exact h2 q hq (hal q.1 (Array.getElem?_eq_some_iff.1 ho).1)

/-- Many temporaries written. -/
def putL (t : Array Value) (l : List (Tmp × Value)) : Array Value := l.foldl (fun t p => t.setIfInBounds p.1 p.2) t

theorem putL_size (l : List (Tmp × Value)) : ∀ t, (putL t l).size = t.size := by
  induction l with
  | nil => intro t; rfl
  | cons p r ih => intro t; simp only [putL, List.foldl_cons] at *; rw [ih]; simp

theorem putL_ne {d : Tmp} (l : List (Tmp × Value)) : ∀ t, (∀ p ∈ l, p.1 ≠ d) → (putL t l)[d]? = t[d]? := by
  induction l with
  | nil => intro t _; rfl
  | cons p r ih =>
    intro t h
    simp only [putL, List.foldl_cons] at *
    rw [ih _ fun q hq => h q (by simp [hq]), Array.getElem?_setIfInBounds_ne (h p (by simp))]

/-- A key as numbers. -/
def code : Value → List Int
  | .int _ n => [n]
  | .agg cs => cs.toList.map fun v => match v with | .int _ n => n | _ => 0
  | _ => []

def OpsOk (P : Program) (ops : Array Oper) (w : World) (aF : Act) (T : TypeId) (m dm : Nat) (tab : List (Nat × Value × Value)) : Nat → List Oper → Prop
  | _, [] => True
  | i, o :: l => OpOk P ops w aF T m dm tab i o ∧ OpsOk P ops w aF T m dm tab (i + 1) l

theorem opsOk_at {w : World} {aF : Act} {T : TypeId} {m dm : Nat} {tab : List (Nat × Value × Value)} : ∀ (l : List Oper) (k : Nat), OpsOk P ops w aF T m dm tab k l →
    ∀ (i : Nat) (o : Oper), l[i]? = some o → OpOk P ops w aF T m dm tab (k + i) o
  | [], _, _, i, o, h => by simp at h
  | x :: l, k, hk, i, o, h => by
    cases i with
    | zero => simp only [List.getElem?_cons_zero, Option.some.injEq] at h; subst h; exact hk.1
    | succ i =>
      simp only [List.getElem?_cons_succ] at h
      have := opsOk_at l (k + 1) hk.2 i o h
      rw [show k + (i + 1) = k + 1 + i from by omega]
      exact this

/-- All that is asked of a literal's region, its table and its values, in one answer. -/
def litB (P : Program) (K : TypeId) (ops : Array Oper) (m dm : Nat) (tab : List (Nat × Value × Value)) (vals : List (Tmp × Value)) (size : Nat) : Bool :=
  shapeB ops && decide (m < ops.size) &&
  tab.all (fun p => p.1 != m && (keyOf P K p.2.1).isSome && match ops[p.1]? with | some o => o.dst.isNone | none => false) &&
  decide ((tab.map (·.1)).Nodup) && decide ((tab.map (fun p => code p.2.1)).Nodup) &&
  vals.all (fun p => ops.any (fun o => o.dst == some p.1)) &&
  ops.all (fun o => match o.dst with | some d => decide (d < size) | none => true) &&
  (decide (dm < size) && vals.all (fun p => p.1 != dm) && ops.any (fun o => o.dst == some dm) && !tab.isEmpty)

theorem eq_of_nodup {α β : Type} {f : α → β} : ∀ {l : List α}, (l.map f).Nodup → ∀ p ∈ l, ∀ q ∈ l, f p = f q → p = q
  | [], _, p, hp, _, _, _ => by cases hp
  | x :: l, h, p, hp, q, hq, e => by
    simp only [List.map_cons, List.nodup_cons, List.mem_map, not_exists, not_and] at h
    rcases List.mem_cons.1 hp with e1 | h1 <;> rcases List.mem_cons.1 hq with e2 | h2
    · rw [e1, e2]
    · exact absurd (by rw [← e, e1]) (h.1 q h2)
    · exact absurd (by rw [e, e2]) (h.1 p h1)
    · exact eq_of_nodup h.2 p h1 q h2 e

/-- What a table of integer keys has at a key. -/
def lk (tab : List (Value × Value)) (key : Value) : Option Value := (tab.find? (fun p => decide (code p.1 = code key))).map (·.2)

def lkB (P : Program) (K : TypeId) (kd : IntKind) (tab : List (Value × Value)) : Bool :=
  tab.all (fun p => (keyOf P K p.1).isSome && match p.1 with | .int k' _ => k' == kd | _ => false) && decide ((tab.map (fun p => code p.1)).Nodup)

theorem run_lk {P : Program} {T K E : TypeId} (KD : Keyed P K) (hT : P.underlying T = some (.map K E)) {w : World} {b : Nat} {es : Array MapEntry} {clock : Nat}
    {z : Value} (hz : (zeroValue E).run P w = .ok z w) (hb : w.heap[b]? = some (.map es clock)) {tab : List (Value × Value)} (hh : Has tab es) {kd : IntKind} {n : Int} (hB : lkB P K kd tab = true)
    (hk : (keyOf P K (.int kd n)).isSome = true) (c : Bool) :
    (Instr.lookup T (.map (some b)) (.int kd n) c).run P w = .ok (if c then .tuple #[(lk tab (.int kd n)).getD z, .bool (lk tab (.int kd n)).isSome] else (lk tab (.int kd n)).getD z) w := by
  simp only [lkB, Bool.and_eq_true, decide_eq_true_eq] at hB
  obtain ⟨hall, hnd⟩ := hB
  obtain ⟨kl, hkl⟩ := Option.isSome_iff_exists.1 hk
  have hkeys : ∀ p ∈ tab, (∃ l, keyOf P K p.1 = some l) ∧ ∃ m, p.1 = .int kd m := fun p hp => by
    have := List.all_eq_true.1 hall p hp
    simp only [Bool.and_eq_true, Option.isSome_iff_exists] at this
    refine ⟨this.1, ?_⟩
    have h2 := this.2
    split at h2
    · rename_i k' m hm
      simp only [beq_iff_eq] at h2
      subst h2
      exact ⟨m, hm⟩
    · cases h2
  rcases run_look KD hT hz hb hh (fun p hp => (hkeys p hp).1) hkl c with ⟨v, hv, hr⟩ | ⟨hno, hr⟩
  · have e : lk tab (.int kd n) = some v := by
      unfold lk
      cases hf : tab.find? (fun p => decide (code p.1 = code (.int kd n))) with
      | none =>
        have := List.find?_eq_none.1 hf _ hv
        simp at this
      | some q =>
        have hq := List.mem_of_find?_eq_some hf
        have hc := List.find?_some hf
        simp only [decide_eq_true_eq] at hc
        have : q = (.int kd n, v) := eq_of_nodup hnd q hq _ hv hc
        rw [this]
        rfl
    rw [hr, e]
    rfl
  · have e : lk tab (.int kd n) = none := by
      unfold lk
      rw [Option.map_eq_none_iff, List.find?_eq_none]
      intro p hp hc
      simp only [decide_eq_true_eq] at hc
      obtain ⟨m, hm⟩ := (hkeys p hp).2
      rw [hm] at hc
      simp only [code, List.cons.injEq, and_true] at hc
      refine hno p.2 ?_
      rw [← hc, ← hm]
      exact hp
    rw [hr, e]
    rfl

/-- A look-up of an integer key in the literal itself. -/
theorem ok_lk {w : World} {aF : Act} {T : TypeId} {m dm : Nat} {tab : List (Nat × Value × Value)} {i : Nat} {o : Oper} {K E : TypeId} (KD : Keyed P K) (hT : P.underlying T = some (.map K E))
    (d : Tmp) (x ix : Operand) (z : Value) (kd : IntKind) (n : Int) (c : Bool) (hi : (i == m) = false) (hs : seesB ops i tab = true) (hd : o.dst = some d) (hop : o.op = .lookup T x ix c)
    (hx : aF.eval x = .map (some w.heap.size)) (hix : aF.eval ix = .int kd n) (hk : (keyOf P K (.int kd n)).isSome = true) (hz : ∀ W, (zeroValue E).run P W = .ok z W) (hB : lkB P K kd (tab.map (·.2)) = true)
    (hv : aF.tmps.getD d undef = if c then .tuple #[(lk (tab.map (·.2)) (.int kd n)).getD z, .bool (lk (tab.map (·.2)) (.int kd n)).isSome] else (lk (tab.map (·.2)) (.int kd n)).getD z) : OpOk P ops w aF T m dm tab i o := by
  refine .inr (.inr (.inr ⟨by simpa using hi, hs, d, hd, fun es clock hh => ?_⟩))
  have hb : (w.alloc (.map es clock)).heap[w.heap.size]? = some (.map es clock) := Array.getElem?_push_size
  have := run_lk KD hT (hz _) hb hh hB hk c
  unfold execOp
  simp only [hop, hx, hix, Sem.run_bind, this, Result.andThen, hv]
  rfl

theorem ok_make {w : World} {aF : Act} {T : TypeId} {m dm : Nat} {tab : List (Nat × Value × Value)} {i : Nat} {o : Oper} (hi : (i == m) = true) (ho : o.op = .makeMap T none) (hd : o.dst = some dm) : OpOk P ops w aF T m dm tab i o :=
  .inl ⟨by simpa using hi, ho, hd⟩
theorem ok_value {w : World} {aF : Act} {T : TypeId} {m dm : Nat} {tab : List (Nat × Value × Value)} {i : Nat} {o : Oper} (d : Tmp) (hi : (i == m) = false) (hd : o.dst = some d)
    (hr : ∀ W, Mid w W → (execOp aF.eval o).run P W = .ok (.value (aF.tmps.getD d undef)) W) : OpOk P ops w aF T m dm tab i o :=
  .inr (.inl ⟨by simpa using hi, d, hd, hr⟩)
theorem ok_look {w : World} {aF : Act} {T : TypeId} {m dm : Nat} {tab : List (Nat × Value × Value)} {i : Nat} {o : Oper} (d : Tmp) (hi : (i == m) = false) (hs : seesB ops i tab = true) (hd : o.dst = some d)
    (hr : ∀ es clock, Has (tab.map (·.2)) es → (execOp aF.eval o).run P (w.alloc (.map es clock)) = .ok (.value (aF.tmps.getD d undef)) (w.alloc (.map es clock))) : OpOk P ops w aF T m dm tab i o :=
  .inr (.inr (.inr ⟨by simpa using hi, hs, d, hd, hr⟩))
theorem ok_insert {w : World} {aF : Act} {T : TypeId} {m dm : Nat} {tab : List (Nat × Value × Value)} {i : Nat} {o : Oper} (k v : Operand) (j : Nat) (hi : (i == m) = false) (hd : o.dst = none)
    (ho : o.op = .insert T (.tmp dm) k v) (ht : tab[j]? = some (i, aF.eval k, aF.eval v)) : OpOk P ops w aF T m dm tab i o :=
  .inr (.inr (.inl ⟨by simpa using hi, hd, k, v, ho, List.mem_of_getElem? ht⟩))
theorem ops_cons {w : World} {aF : Act} {T : TypeId} {m dm : Nat} {tab : List (Nat × Value × Value)} {i : Nat} {o : Oper} {l : List Oper} (h : OpOk P ops w aF T m dm tab i o) (hl : OpsOk P ops w aF T m dm tab (i + 1) l) : OpsOk P ops w aF T m dm tab i (o :: l) := ⟨h, hl⟩
theorem ops_nil {w : World} {aF : Act} {T : TypeId} {m dm : Nat} {tab : List (Nat × Value × Value)} {i : Nat} : OpsOk P ops w aF T m dm tab i [] := trivial

theorem any_lit2 {l : List Oper} {a0 : Act} {w : World} {T K E : TypeId} (KD : Keyed P K)
    (hT : P.underlying T = some (.map K E)) (m dm : Nat) (vals : Value → List (Tmp × Value)) (tab : List (Nat × Value × Value))
    (hB : litB P K l.toArray m dm tab (vals (.map (some w.heap.size))) a0.tmps.size = true)
    (hops : OpsOk P l.toArray w ⟨putL a0.tmps ((dm, .map (some w.heap.size)) :: vals (.map (some w.heap.size))), a0.defers⟩ T m dm tab 0 l)
    (hQ : ∀ es clock, Has (tab.map (·.2)) es → Q .normal ⟨putL a0.tmps ((dm, .map (some w.heap.size)) :: vals (.map (some w.heap.size))), a0.defers⟩ (w.alloc (.map es clock))) :
    wpAny P .any l.toArray Q l.toArray.size (Array.replicate l.toArray.size false) a0 w ∧ shapeB l.toArray = true := by
  simp only [litB, Bool.and_eq_true, decide_eq_true_eq] at hB
  obtain ⟨⟨⟨⟨⟨⟨⟨h1, h2⟩, h3⟩, h4⟩, h5⟩, h6⟩, h7⟩, ⟨⟨h8, h9⟩, h10⟩, h11⟩ := hB
  have h11 : tab ≠ [] := by
    intro e
    rw [e] at h11
    cases h11
  have hmap : (putL a0.tmps ((dm, .map (some w.heap.size)) :: vals (.map (some w.heap.size)))).getD dm undef = .map (some w.heap.size) := by
    have e : putL a0.tmps ((dm, .map (some w.heap.size)) :: vals (.map (some w.heap.size))) = putL (a0.tmps.setIfInBounds dm (.map (some w.heap.size))) (vals (.map (some w.heap.size))) := rfl
    rw [e, Array.getD_eq_getD_getElem?, putL_ne _ _ fun p hp => by simpa using List.all_eq_true.1 h9 p hp]
    simp [h8]
  have h6' : ∀ p ∈ (dm, Value.map (some w.heap.size)) :: vals (.map (some w.heap.size)), l.toArray.any (fun o => o.dst == some p.1) = true := by
    intro p hp
    rcases List.mem_cons.1 hp with e | hp
    · rw [e]; exact h10
    · exact List.all_eq_true.1 h6 p hp
  have h3' := List.all_eq_true.1 h3
  refine ⟨any_lit (aF := ⟨putL a0.tmps ((dm, .map (some w.heap.size)) :: vals (.map (some w.heap.size))), a0.defers⟩) h1 KD hT m dm h2 tab h11 ?_ ?_ ?_ ?_ ?_ rfl (putL_size _ _) ?_ ?_ hmap ?_ hQ, h1⟩
  · intro p hp
    have := h3' p hp
    simp only [Bool.and_eq_true, Option.isSome_iff_exists] at this
    exact this.1.2
  · intro p hp q hq e
    have hpq : p = q := eq_of_nodup h5 p hp q hq (by simp only [e])
    rw [hpq]
  · intro p hp q hq e
    exact eq_of_nodup h4 p hp q hq e
  · intro p hp
    have := h3' p hp
    simp only [Bool.and_eq_true, bne_iff_ne] at this
    exact this.1.1
  · intro p hp
    have := h3' p hp
    simp only [Bool.and_eq_true] at this
    have h := this.2
    split at h
    · rename_i o ho
      exact ⟨o, ho, by simpa using h⟩
    · cases h
  · intro i o d ho hd
    have := Array.all_eq_true_iff_forall_mem.1 h7 o (Array.mem_of_getElem? ho)
    simpa [hd] using this
  · intro t _ hno
    refine putL_ne _ _ fun p hp e => ?_
    have := h6' p hp
    obtain ⟨o, ho, hb⟩ := Array.any_eq_true'.1 this
    obtain ⟨j, hj⟩ := Array.mem_iff_getElem?.1 ho
    exact hno j o hj (by simpa [e] using hb)
  · intro i o ho
    have := opsOk_at l 0 hops i o (by simpa using ho)
    simpa using this

/-- A literal whose order is drawn. -/
theorem region_lit2 {id : Nat} {l : List Oper} {a0 : Act} {w : World} {T K E : TypeId} (hm : P.follows .mixedOrders = true) (KD : Keyed P K)
    (hT : P.underlying T = some (.map K E)) (m dm : Nat) (vals : Value → List (Tmp × Value)) (tab : List (Nat × Value × Value))
    (hB : litB P K l.toArray m dm tab (vals (.map (some w.heap.size))) a0.tmps.size = true)
    (hops : OpsOk P l.toArray w.drew ⟨putL a0.tmps ((dm, .map (some w.heap.size)) :: vals (.map (some w.heap.size))), a0.defers⟩ T m dm tab 0 l)
    (hQ : ∀ es clock, Has (tab.map (·.2)) es → Q .normal ⟨putL a0.tmps ((dm, .map (some w.heap.size)) :: vals (.map (some w.heap.size))), a0.defers⟩ (w.drew.alloc (.map es clock))) :
    (Code.region id l.toArray true).wp P Q a0 w :=
  wp_region_any hm (any_lit2 (w := w.drew) KD hT m dm vals tab hB hops hQ).1

/-- A literal in the text's order. -/
theorem region_lit3 {id : Nat} {l : List Oper} {a0 : Act} {w : World} {T K E : TypeId} (KD : Keyed P K)
    (hT : P.underlying T = some (.map K E)) (m dm : Nat) (vals : Value → List (Tmp × Value)) (tab : List (Nat × Value × Value))
    (hB : litB P K l.toArray m dm tab (vals (.map (some w.heap.size))) a0.tmps.size = true)
    (hops : OpsOk P l.toArray w ⟨putL a0.tmps ((dm, .map (some w.heap.size)) :: vals (.map (some w.heap.size))), a0.defers⟩ T m dm tab 0 l)
    (hQ : ∀ es clock, Has (tab.map (·.2)) es → Q .normal ⟨putL a0.tmps ((dm, .map (some w.heap.size)) :: vals (.map (some w.heap.size))), a0.defers⟩ (w.alloc (.map es clock))) :
    (Code.region id l.toArray false).wp P Q a0 w := by
  obtain ⟨h, hs⟩ := any_lit2 KD hT m dm vals tab hB hops hQ
  refine wp_region ?_
  rw [List.range_eq_range']
  exact wpOps_of_any (fun i o ho => shape_lex hs ho) _ 0 _ _ _ (by simp) (by simp) (fun i => by
    simp only [Nat.not_lt_zero, iff_false, Bool.not_eq_true]
    by_cases hi : i < l.toArray.size
    · simp at hi; simp [hi]
    · simp at hi; simp [hi]) h
end
end Go.Proofs.Ytlhegejfaihgmaa.Lit
