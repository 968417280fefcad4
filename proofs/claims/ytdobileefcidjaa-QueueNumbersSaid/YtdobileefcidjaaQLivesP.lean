/-
  'QueueLives': the contracts of New, Push, Pop as the walk asks them.
-/
import Derived.Test.YtdobileefcidjaaQLives
import Derived.Test.YtdobileefcidjaaDo
namespace Go.Proofs.Ytdobileefcidjaa.M
open Go.RowKit Go.Shelf
set_option linter.unusedVariables false
set_option linter.unusedSectionVars false
set_option linter.unusedSimpArgs false
theorem specE_queue {stack : Bool} {key val ent : Int} (h : specE (kindOf stack) key val ent = 0) : key = 0 ∧ 1 ≤ val ∧ val ≤ 1024 ∧ 1 ≤ ent ∧ ent ≤ 1024 := by
  cases stack
  all_goals
    simp only [kindOf, if_true, if_false, Bool.false_eq_true, specE, rowB5, rowB6, rowE] at h
    split at h
    · rename_i hb
      simp only [inB, Bool.and_eq_true, decide_eq_true_eq] at hb
      omega
    · omega
def pushE (val ent : Int) (rows : List (List Value)) (xs : List Value) (f : Int) : Int := if (xs.length : Int) ≠ val ∨ (f ≠ 0 ∧ f ≠ 2) then 2 else if (rows.length : Int) = ent ∧ f = 0 then 8 else 0
def pushR (val ent : Int) (rows : List (List Value)) (xs : List Value) (f : Int) : List (List Value) := if (xs.length : Int) ≠ val ∨ (f ≠ 0 ∧ f ≠ 2) then rows else if (rows.length : Int) = ent then (if f = 0 then rows else rows.eraseIdx 0 ++ [xs]) else rows ++ [xs]
theorem pushR_len (val ent : Int) (rows : List (List Value)) (xs : List Value) (f : Int) : (pushR val ent rows xs f).length ≤ rows.length + 1 := by
  unfold pushR
  split
  · omega
  · split
    · split
      · omega
      · rw [List.length_append, List.length_singleton]; have := List.length_eraseIdx_le rows 0; omega
    · rw [List.length_append, List.length_singleton]; omega
theorem pushR_all {val ent : Int} {rows : List (List Value)} {xs : List Value} {f : Int} (h : ∀ r ∈ rows, IsBytes r ∧ (r.length : Int) = val) (hx : IsBytes xs) : ∀ r ∈ pushR val ent rows xs f, IsBytes r ∧ (r.length : Int) = val := by
  unfold pushR
  intro r hr
  split at hr
  · exact h r hr
  · rename_i hn
    have hxv : (xs.length : Int) = val := by
      by_cases e : (xs.length : Int) = val
      · exact e
      · exact absurd (.inl e) hn
    split at hr
    · split at hr
      · exact h r hr
      · rcases List.mem_append.1 hr with hr | hr
        · exact h r (List.mem_of_mem_eraseIdx hr)
        · simp only [List.mem_singleton] at hr; subst hr; exact ⟨hx, hxv⟩
    · rcases List.mem_append.1 hr with hr | hr
      · exact h r hr
      · simp only [List.mem_singleton] at hr; subst hr; exact ⟨hx, hxv⟩
theorem sees_block_lt {w : World} {s : Value} {xs : List Value} (h : Sees w s xs) (hne : xs ≠ []) {b : Nat} (hb : s.ownBlock = some b) : b < w.heap.size := by
  rcases h with ⟨rfl, rfl⟩ | ⟨a, c, rfl, hc, hx⟩
  · exact absurd rfl hne
  · cases xs with
    | nil => exact absurd rfl hne
    | cons x xs =>
      have h0 := cell_lt (hx 0 x rfl)
      rw [block_of_add] at h0
      cases hb
      exact h0
section
variable {w w' : World} {ok : Nat → Prop} {Q X : Nat} {stack : Bool} {val ent : Int} {rows : List (List Value)}
theorem QueueS.pushAll (h : QueueS w ok Q stack val ent rows) (f : Int) {s : Value} {xs : List Value} (hx : Sees w s xs) (hxo : xs ≠ [] → ∀ b, s.ownBlock = some b → b ≠ Q) (hb : IsBytes xs) (hv1 : 1 ≤ val) (hval : val ≤ 1024) (he : 1 ≤ ent) (hl : rows.length ≤ 1000000) (hok : ∀ b, w.heap.size ≤ b → ok b) {E : Int} (hE : pushE val ent rows xs f = E) :
    Calls Try.prog 18 #[.pointer (some ⟨Q, 0, none⟩), s, .int .u64 f] w fun e w' => e = .returned (.int .i64 E) ∧ QueueS w' ok Q stack val ent (pushR val ent rows xs f) ∧ ∃ L, (∀ x ∈ L, ok x) ∧ But L w w' := by
  unfold pushE at hE
  unfold pushR
  by_cases h1 : (xs.length : Int) ≠ val ∨ (f ≠ 0 ∧ f ≠ 2)
  · rw [if_pos h1] at hE ⊢
    subst hE
    obtain ⟨a, c, rfl, _⟩ := sees_shape hx
    refine (h.pushArg a _ c f h1).mono ?_
    rintro e w' ⟨rfl, rfl⟩
    exact ⟨rfl, h, [], by simp, But.refl _ _⟩
  · rw [if_neg h1] at hE ⊢
    have hv : (xs.length : Int) = val := by
      by_cases e : (xs.length : Int) = val
      · exact e
      · exact absurd (.inl e) h1
    replace hxo := hxo (fun h => by subst h; simp at hv; omega)
    have hf : f = 0 ∨ f = 2 := by
      by_cases e : f = 0
      · exact .inl e
      · by_cases e2 : f = 2
        · exact .inr e2
        · exact absurd (.inr ⟨e, e2⟩) h1
    by_cases h2 : (rows.length : Int) = ent
    · rw [if_pos h2]
      by_cases h3 : f = 0
      · rw [if_pos ⟨h2, h3⟩] at hE
        rw [if_pos h3]
        subst hE h3
        obtain ⟨a, c, rfl, _⟩ := sees_shape hx
        refine (h.pushFull a _ c hv h2).mono ?_
        rintro e w' ⟨rfl, hb'⟩
        exact ⟨rfl, h.keep hb' (by simp), [], by simp, hb'⟩
      · rw [if_neg (fun h => h3 h.2)] at hE
        rw [if_neg h3]
        subst hE
        obtain rfl : f = 2 := by rcases hf with h | h; exact absurd h h3; exact h
        exact h.pushThere hx hxo hb (by omega) hv h2 (by omega) hl hok
    · rw [if_neg h2]
      rw [if_neg (fun h => h2 h.1)] at hE
      subst hE
      exact h.pushMore f hx hb (by omega) hv hf h2 hl hok
theorem RefQ.pushAll {k : Int} (h : RefQ w ok X k val ent rows) (f : Int) {s : Value} {xs : List Value} (hx : Sees w s xs) (hxo : xs ≠ [] → ∀ b, s.ownBlock = some b → b ≠ X) (hb : IsBytes xs) (hv1 : 1 ≤ val) (hval : val ≤ 1024) (he : 1 ≤ ent) (hl : rows.length ≤ 1000000) (hok : ∀ b, w.heap.size ≤ b → ok b) {E : Int} (hE : pushE val ent rows xs f = E) :
    Calls Try.prog 19 #[.pointer (some ⟨X, 0, none⟩), s, .int .u64 f] w fun e w' => e = .returned (.int .i64 E) ∧ RefQ w' ok X k val ent (pushR val ent rows xs f) ∧ ∃ L, (∀ x ∈ L, ok x) ∧ But L w w' := by
  have hX : ∀ x ∈ [X], ok x := fun x hx => by simp only [List.mem_singleton] at hx; subst hx; exact h.okX
  unfold pushE at hE
  unfold pushR
  by_cases h1 : (xs.length : Int) ≠ val ∨ (f ≠ 0 ∧ f ≠ 2)
  · rw [if_pos h1] at hE ⊢
    subst hE
    obtain ⟨a, c, rfl, _⟩ := sees_shape hx
    refine (h.pushArg a _ c f h1).mono ?_
    rintro e w' ⟨rfl, rfl⟩
    exact ⟨rfl, h, [], by simp, But.refl _ _⟩
  · rw [if_neg h1] at hE ⊢
    have hv : (xs.length : Int) = val := by
      by_cases e : (xs.length : Int) = val
      · exact e
      · exact absurd (.inl e) h1
    replace hxo := hxo (fun h => by subst h; simp at hv; omega)
    have hf : f = 0 ∨ f = 2 := by
      by_cases e : f = 0
      · exact .inl e
      · by_cases e2 : f = 2
        · exact .inr e2
        · exact absurd (.inr ⟨e, e2⟩) h1
    by_cases h2 : (rows.length : Int) = ent
    · rw [if_pos h2]
      by_cases h3 : f = 0
      · rw [if_pos ⟨h2, h3⟩] at hE
        rw [if_pos h3]
        subst hE h3
        obtain ⟨a, c, rfl, _⟩ := sees_shape hx
        refine (h.pushFull a _ c hv h2).mono ?_
        rintro e w' ⟨rfl, hb'⟩
        exact ⟨rfl, h.keep hb' (by simp), [], by simp, hb'⟩
      · rw [if_neg (fun h => h3 h.2)] at hE
        rw [if_neg h3]
        subst hE
        obtain rfl : f = 2 := by rcases hf with h | h; exact absurd h h3; exact h
        cases rows with
        | nil => simp at h2; omega
        | cons r0 rows =>
          refine (h.pushThere hx hxo hb (by omega) hv h2 (by simp at hl; omega) hok).mono ?_
          rintro e w' ⟨rfl, hr, hb'⟩
          exact ⟨rfl, hr, [X], hX, hb'⟩
    · rw [if_neg h2]
      rw [if_neg (fun h => h2 h.1)] at hE
      subst hE
      rcases hf with rfl | rfl
      · refine (h.pushMore0 hx hxo hb (by omega) hv h2 hl hok).mono ?_
        rintro e w' ⟨rfl, hr, hb'⟩
        exact ⟨rfl, hr, [X], hX, hb'⟩
      · refine (h.pushMore2 hx hxo hb (by omega) hv h2 hl hok).mono ?_
        rintro e w' ⟨rfl, hr, hb'⟩
        exact ⟨rfl, hr, [X], hX, hb'⟩
theorem newBoth (stack : Bool) (val ent : Int) (w : World) (hE : specE (kindOf stack) 0 val ent = 0) (ok : Nat → Prop) (hok : ∀ b, w.heap.size ≤ b → ok b) :
    Calls Try.prog 9 #[.agg #[.int .u8 (kindOf stack), .int .i64 0, .int .i64 val, .int .i64 ent]] w fun e w' => ∃ Q, e = .returned (.tuple #[.pointer (some ⟨Q, 0, none⟩), .int .i64 0]) ∧ QueueS w' ok Q stack val ent [] ∧ But [] w w' := by
  cases stack with
  | false => exact newQueue val ent w hE ok hok
  | true => exact newStack val ent w hE ok hok
theorem refNewBoth (stack : Bool) (val ent : Int) (w : World) (hE : specE (kindOf stack) 0 val ent = 0) (ok : Nat → Prop) (hok : ∀ b, w.heap.size ≤ b → ok b) :
    Calls Try.prog 10 #[.agg #[.int .u8 (kindOf stack), .int .i64 0, .int .i64 val, .int .i64 ent]] w fun e w' => ∃ X, e = .returned (.tuple #[.pointer (some ⟨X, 0, none⟩), .int .i64 0]) ∧ RefQ w' ok X (kindOf stack) val ent [] ∧ But [] w w' :=
  refNewQ (kindOf stack) val ent w (by cases stack; exact .inl rfl; exact .inr rfl) hE ok hok
end
section
variable {w wr w' : World} {base Q X : Nat} {stack : Bool} {val ent : Int} {col col' : Nat → Nat} {told : Value} {rq rr rq' rr' : List (List Value)} {tv : List Value}
theorem QLives.recol (h : QLives w base Q X stack val ent col told wr rq rr tv) (hz : base ≤ wr.heap.size) (hc : ∀ b, b < wr.heap.size → col' b = col b) : QLives w base Q X stack val ent col' told wr rq rr tv where
  hbase := h.hbase
  low := fun b hb => by rw [hc b (by omega)]; exact h.low b hb
  queue := h.queue.also fun b hb hk => by rw [hc b hb]; exact hk
  ref := h.ref.also fun b hb hk => by rw [hc b hb]; exact hk
  toldq := h.toldq
  toldcol := fun b hb => by rw [hc b (h.toldq.lt hb)]; exact h.toldcol b hb
  rows := fun j v hv => by
    obtain ⟨xs, h1, h2, h3⟩ := h.rows j v hv
    exact ⟨xs, h1, h2, fun b hb => by rw [hc b (h1.lt hb)]; exact h3 b hb⟩
  apart := h.apart
  but := h.but
/-- The colours behind a Pop: what it tells has colour 3. -/
def popCol (col : Nat → Nat) (n : Nat) (v : Value) : Nat → Nat := fun b => if v.ownBlock = some b then 3 else dye col n 1 b
theorem QLives.popTurn {v : Value} (h : QLives w base Q X stack val ent col told wr rq rr tv) (hz : base ≤ wr.heap.size) (hv : ∀ b, v.ownBlock = some b → wr.heap.size ≤ b) (hb : But [Q] wr w') (hS : QueueS w' (fun b => dye col wr.heap.size 1 b = 1 ∧ v.ownBlock ≠ some b) Q stack val ent rq') :
    QLives w base Q X stack val ent (popCol col wr.heap.size v) told w' rq' rr tv := by
  have hold : ∀ b, b < wr.heap.size → popCol col wr.heap.size v b = col b := fun b hb => by
    unfold popCol
    rw [if_neg (fun h => by have := hv b h; omega), dye_old hb]
  have hQ : Q < wr.heap.size := by
    obtain ⟨_, _, _, _, _, _, h1, _⟩ := h.queue
    exact lt_of h1
  refine (h.recol hz hold).queueTurn hb (fun x hx => ?_) (hS.also fun b _ hk => ?_)
  · simp only [List.mem_singleton] at hx
    subst hx
    rw [hold _ hQ]
    exact h.queue.okQ
  · unfold popCol
    rw [if_neg hk.2]
    exact hk.1
theorem popCol_own (col : Nat → Nat) (n : Nat) (v : Value) : ∀ b, v.ownBlock = some b → popCol col n v b = 3 := fun b hb => if_pos hb
/-- What stands at the head of a round, in one word. -/
def QHead (w : World) (base Q X : Nat) (stack : Bool) (val ent : Int) (m : Nat) (told : Value) (wx : World) : Prop :=
  ∃ col rows tv, QLives w base Q X stack val ent col told wx rows rows tv ∧ rows.length ≤ m ∧ tv.length ≤ m ∧ base ≤ wx.heap.size ∧ ∀ r ∈ rows, IsBytes r ∧ (r.length : Int) = val
/-- A row that was told joins what was told before; all blocks that are new get colour 3. -/
theorem QLives.join {v v' : Value} {xs : List Value} {o : Obj} {m : Nat} {rows : List (List Value)} (h : QLives w base Q X stack val ent col told wr rows rows tv) (hz : base ≤ wr.heap.size) (hv : OwnQ wr 5 v xs) (hx : xs.length ≤ 65536) (hvc : ∀ b, v.ownBlock = some b → col b = 3) (hva : ∀ (j : Nat) (u : Value) (b : Nat), tv[j]? = some u → u.ownBlock = some b → v.ownBlock ≠ some b)
    (hl : rows.length ≤ m) (ht : tv.length + 1 ≤ m) (hr : ∀ r ∈ rows, IsBytes r ∧ (r.length : Int) = val) (hap : Appended (wr.alloc o) w' 36 told v' tv [v]) : ∃ a c, v' = .slice a (tv.length + 1) c ∧ QHead w base Q X stack val ent m v' w' := by
  obtain ⟨a, c, e⟩ := hap.1.form
  have h' := (h.dyed hz 3).tell hv hx (fun b hb => by rw [dye_old (hv.lt hb)]; exact hvc b hb) hva (fun b hb => dye_new hb) hap
  refine ⟨a, c, by rw [e, List.length_append]; rfl, _, rows, _, h', hl, by rw [List.length_append]; exact ht, ?_, hr⟩
  have hs : wr.heap.size ≤ w'.heap.size := by
    have h0 : wr.heap.size ≤ (wr.alloc o).heap.size := by rw [size_alloc]; omega
    rcases hap.2 with ⟨_, _, _, _, _, hb⟩ | ⟨_, hb⟩
    · exact Nat.le_trans h0 hb.size
    · exact Nat.le_trans h0 hb.size
  omega
end
end Go.Proofs.Ytdobileefcidjaa.M
