/-
  Merged: Heap, Range, Alloc, TBack, Many, BitsK, Tree, Reach.
-/
import Derived.WalkLawsBesides
import Derived.WalkSpells
import Derived.Handy
import Derived.Lib.Hide
import Derived.Maps.OwnSet
import Derived.Maps.AppendAt
import Derived.Laws.OwnMore
import Derived.Laws.MakeOwn
import Derived.Laws.CopyOwn
import Derived.RangeFuncNested
import Derived.RangeFuncBound
import Derived.RangeFuncCalls
import Derived.RangeFuncLeaves
import Derived.RangeFuncBox
import Derived.Shelf.Abstract
import Derived.Shelf.RegionOpen
import Derived.WalkKit
import Derived.OwnWalkIn
import Derived.TacticsInMore
import Derived.LoopNIn
import Derived.LoopIn
import Derived.Test.YtpoinhfkgnkedaaProg
namespace Go.Proofs.Ytpoinhfkgnkedaa.M
open Go.RowKit
set_option linter.unusedVariables false
set_option linter.unusedSectionVars false
set_option linter.unusedSimpArgs false
/-- All old blocks but those of L are as they were. -/
structure But (L : List Nat) (w w' : World) : Prop where
  os : w'.os = w.os
  tape : w'.tape = w.tape
  output : w'.output = w.output
  size : w.heap.size ≤ w'.heap.size
  block : ∀ k, k < w.heap.size → k ∉ L → w'.heap[k]? = w.heap[k]?
theorem But.refl (L : List Nat) (w : World) : But L w w := ⟨rfl, rfl, rfl, Nat.le_refl _, fun _ _ _ => rfl⟩
theorem But.trans {L M : List Nat} {a b c : World} (h : But L a b) (k : But M b c) (hM : ∀ x ∈ M, x ∈ L ∨ a.heap.size ≤ x) : But L a c :=
  ⟨k.os.trans h.os, k.tape.trans h.tape, k.output.trans h.output, Nat.le_trans h.size k.size, fun i hi hn =>
    (k.block i (Nat.lt_of_lt_of_le hi h.size) (fun hm => (hM i hm).elim hn (fun hle => by omega))).trans (h.block i hi hn)⟩
theorem But.mono {L M : List Nat} {a b : World} (h : But L a b) (hM : ∀ x ∈ L, x ∈ M) : But M a b :=
  ⟨h.os, h.tape, h.output, h.size, fun i hi hn => h.block i hi (fun hm => hn (hM i hm))⟩
theorem But.new {L : List Nat} {a b : World} (h : But L a b) (hL : ∀ x ∈ L, a.heap.size ≤ x) : But [] a b :=
  ⟨h.os, h.tape, h.output, h.size, fun i hi hn => h.block i hi (fun hm => by have := hL i hm; omega)⟩
theorem But.drew {L : List Nat} {a b : World} (h : But L a b) : But L a b.drew := ⟨h.os, h.tape, h.output, h.size, h.block⟩
theorem But.alloc {L : List Nat} {a b : World} (h : But L a b) (o : Obj) : But L a (b.alloc o) :=
  ⟨h.os, h.tape, h.output, Nat.le_trans h.size (show b.heap.size ≤ (b.heap.push o).size by simp), fun i hi hn => (Below.heap_alloc b o i (Nat.lt_of_lt_of_le hi h.size)).trans (h.block i hi hn)⟩
theorem But.setCell {L : List Nat} {a b : World} (h : But L a b) {p : Addr} (hp : p.block ∈ L ∨ a.heap.size ≤ p.block) (u : Value) : But L a (b.setCell p u) :=
  ⟨h.os, h.tape, h.output, Nat.le_trans h.size (by simp [World.setCell]), fun i hi hn => (Below.heap_setCell b p u i (fun he => by rcases hp with h1 | h1; exact hn (he ▸ h1); omega)).trans (h.block i hi hn)⟩
theorem But.grown {L : List Nat} {a b c : World} {row : Option Nat} (h : But L a b) (hg : b.grownBy c row) (hr : ∀ k, row = some k → k ∈ L ∨ a.heap.size ≤ k) : But L a c :=
  ⟨hg.os.trans h.os, hg.tape.trans h.tape, hg.output.trans h.output, Nat.le_trans h.size hg.size, fun i hi hn =>
    (hg.block i (Nat.lt_of_lt_of_le hi h.size) (fun he => (hr i he.symm).elim hn (fun hle => by omega))).trans (h.block i hi hn)⟩
theorem But.below {L : List Nat} {a b : World} {B : Nat} (h : But L a b) (hB : B ≤ a.heap.size) (hL : ∀ x ∈ L, B ≤ x) : Below B a b :=
  ⟨h.os, h.tape, h.output, h.size, fun k hk => h.block k (by omega) (fun hm => by have := hL k hm; omega)⟩
theorem But.of_below {a b : World} (h : Below a.heap.size a b) : But [] a b := ⟨h.os, h.tape, h.output, h.size, fun k hk _ => h.block k hk⟩
theorem But.heap {L : List Nat} {a b : World} (h : But L a b) {k : Nat} {o : Obj} (hk : a.heap[k]? = some o) (hn : k ∉ L) : b.heap[k]? = some o := by
  have hlt : k < a.heap.size := (Array.getElem?_eq_some_iff.1 hk).1
  rw [h.block k hlt hn, hk]
theorem lt_of {a : World} {k : Nat} {o : Obj} (hk : a.heap[k]? = some o) : k < a.heap.size := (Array.getElem?_eq_some_iff.1 hk).1

theorem add_at (g o j : Nat) : (⟨g, o, none⟩ : Addr).add j = ⟨g, o + j, none⟩ := by
  by_cases h0 : j = 0
  · subst h0; simp [Addr.add]
  · simp [Addr.add, h0]
theorem cell_but {L : List Nat} {a b : World} (h : But L a b) {p : Addr} {u : Value} (hc : a.cell? p = some u) (hn : p.block ∉ L) : b.cell? p = some u := by
  have hlt : p.block < a.heap.size := by
    apply Classical.byContradiction
    intro hn
    have : a.heap[p.block]? = none := Array.getElem?_eq_none (by omega)
    simp [World.cell?, this] at hc
  rw [World.cell?_of_block (w := a) (h.block _ hlt hn)]
  exact hc
theorem size_alloc (w : World) (o : Obj) : (w.alloc o).heap.size = w.heap.size + 1 := Array.size_push ..
/-- What a slice shows. -/
def Sees (w : World) (s : Value) (xs : List Value) : Prop :=
  (s = .slice none 0 0 ∧ xs = []) ∨ ∃ ad c, s = .slice (some ad) xs.length c ∧ xs.length ≤ c ∧ ∀ j u, xs[j]? = some u → w.cell? (ad.add j) = some u
theorem block_of_add (a : Addr) (n : Nat) : (a.add n).block = a.block := by unfold Addr.add; split <;> rfl
theorem cell_lt {w : World} {a : Addr} {u : Value} (h : w.cell? a = some u) : a.block < w.heap.size := by
  apply Classical.byContradiction
  intro hn
  have : w.heap[a.block]? = none := Array.getElem?_eq_none (by omega)
  simp [World.cell?, this] at h
theorem Sees.but {L : List Nat} {w w' : World} {s : Value} {xs : List Value} (h : Sees w s xs) (hb : But L w w') (hn : ∀ k, s.ownBlock = some k → k ∉ L) : Sees w' s xs := by
  rcases h with h | ⟨ad, c, rfl, hc, hx⟩
  · exact .inl h
  · refine .inr ⟨ad, c, rfl, hc, fun j u hj => ?_⟩
    have h1 := hx j u hj
    rw [World.cell?_of_block (w := w) (hb.block _ (cell_lt h1) (by rw [block_of_add]; exact hn _ rfl))]
    exact h1
/-- What a slice owns: a block of its own, from its first cell on. -/
def Own (w : World) (v : Value) (xs : List Value) : Prop := w.ownsRow 0 5 1 v xs.length xs
theorem Own.sees {w : World} {v : Value} {xs : List Value} (h : Own w v xs) : Sees w v xs := by
  rcases h.2 with ⟨rfl, hn⟩ | ⟨g, cap, cur, rfl, _, hg, hc, hm, hs, ht⟩
  · exact .inl ⟨rfl, List.eq_nil_of_length_eq_zero hn⟩
  · exact .inr ⟨⟨g, 0, none⟩, cap, rfl, hc, fun j u hj => h.cells (g := g) rfl j u hj⟩
theorem Own.but {L : List Nat} {w w' : World} {v : Value} {xs : List Value} (h : Own w v xs) (hb : But L w w') (hn : ∀ k, v.ownBlock = some k → k ∉ L) : Own w' v xs := by
  refine ⟨h.1, ?_⟩
  rcases h.2 with h2 | ⟨g, cap, cur, rfl, h0, hg, rest⟩
  · exact .inl h2
  · exact .inr ⟨g, cap, cur, rfl, h0, hb.heap hg (hn g rfl), rest⟩
theorem Own.lt {w : World} {v : Value} {xs : List Value} (h : Own w v xs) : ∀ k, v.ownBlock = some k → k < w.heap.size := fun k hk => (World.ownsRow.lt h k hk).2
end Go.Proofs.Ytpoinhfkgnkedaa.M
namespace Go.Proofs.Ytpoinhfkgnkedaa.M
open Go.RowKit Go.Shelf
set_option linter.unusedVariables false
set_option linter.unusedSectionVars false
set_option linter.unusedSimpArgs false
/-- What stands when new blocks are laid, and when a block from B on that holds no cells turns. -/
structure Abides {β : Type} (B : Nat) (I : β → World → Prop) : Prop where
  new : ∀ s V W, I s V → But [] V W → I s W
  put : ∀ s V r o o', I s V → B ≤ r → V.heap[r]? = some o → o.isCells = false → I s (V.putObj r o')
theorem Abides.mono {β : Type} {B C : Nat} {I : β → World → Prop} (h : Abides B I) (hBC : B ≤ C) : Abides C I := ⟨h.new, fun s V r o o' hs hr => h.put s V r o o' hs (Nat.le_trans hBC hr)⟩
theorem Abides.and {β : Type} {B : Nat} {I K : β → World → Prop} (h : Abides B I) (k : Abides B K) : Abides B (fun s W => I s W ∧ K s W) :=
  ⟨fun s V W hs hb => ⟨h.new s V W hs.1 hb, k.new s V W hs.2 hb⟩, fun s V r o o' hs hr ho hc => ⟨h.put s V r o o' hs.1 hr ho hc, k.put s V r o o' hs.2 hr ho hc⟩⟩
theorem Abides.none {β : Type} (B : Nat) : Abides B (fun (_ : β) (_ : World) => False) := ⟨fun _ _ _ h _ => h, fun _ _ _ _ _ h _ _ _ => h⟩
theorem but_putObj {V : World} {r : Nat} {o : Obj} (o' : Obj) (h : V.heap[r]? = some o) : But [r] V (V.putObj r o') :=
  ⟨rfl, rfl, rfl, by simp [World.putObj], fun k hk hn => World.putObj_heap_other (by simpa using hn)⟩
/-- Facts that stand behind any turn of blocks that are not theirs: they abide. -/
theorem Abides.of_but {β : Type} {B : Nat} {I : β → World → Prop} (h : ∀ s V W L, I s V → But L V W → (∀ x ∈ L, B ≤ x ∧ ∃ o, V.heap[x]? = some o ∧ o.isCells = false) → I s W) : Abides B I :=
  ⟨fun s V W hs hb => h s V W [] hs hb (by simp), fun s V r o o' hs hr ho hc => h s V _ [r] hs (but_putObj o' ho) (by simp only [List.mem_singleton]; rintro x rfl; exact ⟨hr, o, ho, hc⟩)⟩
theorem keepsOthers_of_but {L : List Nat} {V W : World} (h : But L V W) (hL : ∀ x ∈ L, ∃ cs t f, V.heap[x]? = some (.cells cs t f)) : KeepsOthers V W :=
  ⟨h.size, fun k o hk ho => h.heap hk (fun hm => by
    obtain ⟨cs, t, f, hc⟩ := hL k hm
    rw [hk] at hc
    cases hc
    cases ho)⟩
def SeqPost {α : Type} (S Sp : List α → Prop) (Tp : List α → List PanicEntry → Prop) (J Jx : List α → World → Prop) (e : Ending) (W' : World) : Prop :=
  ((∃ v, e = .returned v) ∧ ((∃ xs, S xs ∧ J xs W') ∨ ∃ pre, Sp pre ∧ Jx pre W')) ∨ ∃ pre chain, Tp pre chain ∧ e = .panicked chain ∧ J pre W'
/-- An iterator's contract. -/
def SeqB {α : Type} (F : Fence) (n : Nat) (P : Program) (g : Nat) (lb : Array Value) (encs : α → Array Value) (A : α → World → Prop) (Kp : World → World → Prop) (S Sp : List α → Prop) (Tp : List α → List PanicEntry → Prop) (N : Nat) (w : World) : Prop :=
  ∀ (l : Nat) (J Jx : List α → World → Prop) (W : World), But [] w W → Abides W.heap.size J → Abides W.heap.size Jx →
    (∀ pre x W1, J pre W1 → A x W1 → pre.length < N → YieldAt F (n - 1) P l (encs x) W1 fun e W' =>
      (e = .returned (.bool true) ∧ J (pre ++ [x]) W' ∧ Kp W1 W') ∨ (e = .returned (.bool false) ∧ Jx (pre ++ [x]) W')) →
    J [] W →
    CallsIn F n P g (#[.func (.yield l) #[] #[]] ++ lb) W (SeqPost S Sp Tp J Jx)
section
variable {F : Fence} {n : Nat} {P : Program}
/-- The law of the statement 'for .. := range f'. -/
theorem wpIn_rangeFunc_but {α : Type} {g : Operand} {ps : Array Tmp} {assign body : Code} {Q : Exit → Act → World → Prop} {a : Act} {w : World}
    (hro : F.round = none) (h1 : 1 ≤ n) {gf : Nat} {lb : Array Value} (hg : a.eval g = .func (.func gf) #[] lb) (hFg : F.fn gf) (eg : ∀ args w, (callFunc gf args).run P w = .ok (.enter gf args) w)
    {encs : α → Array Value} {A : α → World → Prop} {Kp : World → World → Prop} {S Sp : List α → Prop} {Tp : List α → List PanicEntry → Prop} {N : Nat} {w0 : World} (hseq : SeqB F (n - 1) P gf lb encs A Kp S Sp Tp N w0)
    (hKt : ∀ {V X Y : World}, Kp V X → Kp X Y → Kp V Y) (hKn : ∀ {V X : World}, w.heap.size ≤ V.heap.size → But [] V X → Kp V X) (hKb : ∀ (V : World) (l : Nat) (o o' : Obj), w.heap.size ≤ l → V.heap[l]? = some o → o.isCells = false → Kp V (V.putObj l o'))
    (hA : Abides w.heap.size A) (hb0 : But [] w0 w) (hps : ∀ x, (encs x).size = ps.size)
    (I : List α → World → Prop) (Ix : Code → List α → World → Prop) (hI : Abides w.heap.size I) (hIx : ∀ c, Abides w.heap.size (Ix c)) (h0 : I [] w)
    (Ax : α → Act → World → Prop) (hAx : ∀ a', Abides w.heap.size (fun x W => Ax x a' W))
    (hassign : ∀ (l : Nat) (pre : List α) (x : α) (W : World) (K : Act → World → Prop), I pre W → A x W → w.heap.size < W.heap.size → (∀ a' W', But [] W W' → Ax x a' W' → K a' W') →
      assign.wpIn (F.inRound l) (n - 1 - 1) P (Exit.then K (fun _ _ _ => False)) { tmps := (ps.zip (encs x)).foldl (fun t (p, v) => t.setIfInBounds p v) a.tmps, defers := [] } W)
    (hbody : ∀ (l : Nat) (pre : List α) (x : α) (a' : Act) (W : World), Ax x a' W → I pre W → A x W → w.heap.size < W.heap.size → pre.length < N → body.wpIn (F.inRound l) (n - 1 - 1) P (ownPostK Kp I Ix (pre ++ [x]) W) a' W)
    (hdone : ∀ (D : Nat) (xs : List α) (W : World), D = w.heap.size → S xs → I xs W → W.heap[D]? = some (.deferred (some [])) → Q .normal { a with defers := { target := .collected D, args := #[] } :: a.defers } W)
    (hstop : ∀ (D : Nat) (c : Code) (pre : List α) (W : World), D = w.heap.size → Sp pre → Ix c pre W → W.heap[D]? = some (.deferred (some [])) → c.wpIn F n P Q { a with defers := { target := .collected D, args := #[] } :: a.defers } W)
    (hthrow : ∀ (D : Nat) (pre : List α) (chain : List PanicEntry) (W : World), D = w.heap.size → Tp pre chain → I pre W → W.heap[D]? = some (.deferred (some [])) → Q (.panic chain) { a with defers := { target := .collected D, args := #[] } :: a.defers } W) :
    (Code.rangeFunc g ps assign body).wpIn F n P Q a w := by
  refine wpIn_rangeFunc fun fn hfn => ?_
  rw [hro]
  let rec' : LoopState → Option Code → Loop := fun st pe => { state := st, pending := pe, fn, tmps := a.tmps, params := ps, assign, body, defers := w.heap.size }
  obtain ⟨rec, hrec⟩ : ∃ r, r = rec' := ⟨_, rfl⟩
  obtain ⟨W1, hW1⟩ : ∃ X, X = (w.alloc (.deferred (some []))).alloc (.loop (rec .ready none)) := ⟨_, rfl⟩
  have hbW : But [] w W1 := by rw [hW1]; exact ((But.refl [] w).alloc _).alloc _
  have hlast : ∀ (V : World) (o : Obj), (V.alloc o).heap[V.heap.size]? = some o := fun V o => World.alloc_heap_new V o
  have hL1 : W1.heap[w.heap.size + 1]? = some (.loop (rec .ready none)) := by
    have h := hlast (w.alloc (.deferred (some []))) (.loop (rec .ready none))
    rw [size_alloc] at h
    rw [hW1]; exact h
  have hK1 : W1.heap[w.heap.size]? = some (.deferred (some [])) := by
    rw [hW1]; exact ((But.refl [] (w.alloc (.deferred (some [])))).alloc _).heap (hlast w _) (by simp)
  have hz1 : W1.heap.size = w.heap.size + 2 := by rw [hW1, size_alloc, size_alloc]
  refine ⟨w.heap.size + 1, [{ target := .collected w.heap.size, args := #[] }], W1, { target := .fn (.func gf) lb, args := #[.func (.yield (w.heap.size + 1)) #[] #[]] }, W1, gf, #[.func (.yield (w.heap.size + 1)) #[] #[]] ++ lb, W1, ?_, ?_, ?_, ?_, fun _ => h1, ?_⟩
  · rw [hW1, hrec]; exact run_enterLoop_outer _ _ _ _ _
  · simp only [resolve, hg]
    simp [go_sem]
  · intro f' hf'
    simp [Target.leads] at hf'
    subst hf'; exact hFg
  · simp [invoke, go_sem, eg]
  -- the two facts of the statement's own, beside the caller's
  let Bk : Loop → World → Prop := fun r W => W.heap[w.heap.size + 1]? = some (.loop r) ∧ W.heap[w.heap.size]? = some (.deferred (some []))
  have hBk : ∀ r, Abides (β := Unit) W1.heap.size (fun _ W => Bk r W) := fun r => Abides.of_but fun _ V X L hs hb hL =>
    ⟨hb.heap hs.1 (fun hm => by have := (hL _ hm).1; omega), hb.heap hs.2 (fun hm => by have := (hL _ hm).1; omega)⟩
  have hI' := hI.mono (show w.heap.size ≤ W1.heap.size by omega)
  have hIx' := fun c => (hIx c).mono (show w.heap.size ≤ W1.heap.size by omega)
  refine (hseq (w.heap.size + 1) (fun pre W => I pre W ∧ Bk (rec .ready none) W) (fun pre W => ∃ c, Ix c pre W ∧ Bk (rec .done (some c)) W) W1 (hb0.trans hbW (by simp))
    ⟨fun s V X hs hb => ⟨hI'.new s V X hs.1 hb, (hBk _).new () V X hs.2 hb⟩, fun s V r o o' hs hr ho hc => ⟨hI'.put s V r o o' hs.1 hr ho hc, (hBk _).put () V r o o' hs.2 hr ho hc⟩⟩
    ⟨fun s V X ⟨c, hs⟩ hb => ⟨c, (hIx' c).new s V X hs.1 hb, (hBk _).new () V X hs.2 hb⟩, fun s V r o o' ⟨c, hs⟩ hr ho hc => ⟨c, (hIx' c).put s V r o o' hs.1 hr ho hc, (hBk _).put () V r o o' hs.2 hr ho hc⟩⟩
    ?_ ⟨hI.new _ _ _ h0 hbW, hL1, hK1⟩).mono ?_
  · -- one round
    rintro pre x W ⟨hi, hl, hk⟩ hax hlen
    have hlt : w.heap.size + 1 < W.heap.size := lt_of hl
    have hy := run_yield (P := P) (args := encs x) hl (by rw [hrec]; exact hps x)
    rw [hrec] at hy
    refine ⟨fn, _, assign, body, hy, roundIn_of_wpIn hfn (hassign _ pre x W _ hi hax (by omega) fun a' X hbX haX => ?_)⟩
    have hiX := hI.new _ _ _ hi hbX
    have haxX := hA.new _ _ _ hax hbX
    have hlX := hbX.heap hl (by simp)
    have hkX := hbX.heap hk (by simp)
    have hltX := lt_of hlX
    refine ⟨_, run_beginRound hlX (by rw [hrec]), ?_⟩
    obtain ⟨Y, hY⟩ : ∃ Y, Y = X.putObj (w.heap.size + 1) (.loop { rec .ready none with state := .busy }) := ⟨_, rfl⟩
    rw [← hY]
    have hlY : Y.heap[w.heap.size + 1]? = some (.loop { rec .ready none with state := .busy }) := by rw [hY]; exact World.putObj_heap_same hltX
    have hkY : Y.heap[w.heap.size]? = some (.deferred (some [])) := by rw [hY]; exact (World.putObj_heap_other (by omega)).trans hkX
    have hiY : I pre Y := by rw [hY]; exact hI.put _ _ _ _ _ hiX (by omega) hlX rfl
    have haY : A x Y := by rw [hY]; exact hA.put _ _ _ _ _ haxX (by omega) hlX rfl
    have haxY : Ax x a' Y := by rw [hY]; exact (hAx a').put _ _ _ _ _ haX (by omega) hlX rfl
    have hzY : w.heap.size < Y.heap.size := by have := lt_of hlY; omega
    have hkpY : Kp W Y := by rw [hY]; exact hKt (hKn (by omega) hbX) (hKb _ _ _ _ (by omega) hlX rfl)
    refine wpIn_mono (hbody _ pre x a' Y haxY hiY haY hzY hlen) ?_
    have fin : ∀ (jump : Option Code) (Z : World), KeepsOthers Y Z → ∃ Z', Z' = Z.putObj (w.heap.size + 1) (.loop (rec (if jump.isNone then .ready else .done) jump)) ∧ (Instr.endRound (w.heap.size + 1) jump).run P Z = .ok (.bool jump.isNone) Z' ∧ Z.heap[w.heap.size + 1]? = some (.loop { rec .ready none with state := .busy }) ∧ Bk (rec (if jump.isNone then .ready else .done) jump) Z' := fun jump Z hko => by
      have hlZ := hko.same _ _ hlY rfl
      have hr := run_endRound (P := P) jump hlZ
      refine ⟨_, rfl, ?_, hlZ, World.putObj_heap_same (lt_of hlZ), (World.putObj_heap_other (by omega)).trans (hko.same _ _ hkY rfl)⟩
      rw [hr, hrec]
    have leave : ∀ (c : Code) (Z : World), KeepsOthers Y Z ∧ Ix c (pre ++ [x]) Z → ∃ v Z', (Instr.endRound (w.heap.size + 1) (some c)).run P Z = .ok v Z' ∧ ((Ending.returned v = .returned (.bool true) ∧ (I (pre ++ [x]) Z' ∧ Bk (rec .ready none) Z') ∧ Kp W Z') ∨ (Ending.returned v = .returned (.bool false) ∧ ∃ c, Ix c (pre ++ [x]) Z' ∧ Bk (rec .done (some c)) Z')) := fun c Z ⟨hko, hix⟩ => by
      obtain ⟨Z', hZ', hr, hlZ, hbk⟩ := fin (some c) Z hko
      exact ⟨_, Z', hr, .inr ⟨rfl, c, by rw [hZ']; exact (hIx c).put _ _ _ _ _ hix (by omega) hlZ rfl, hbk⟩⟩
    rintro e a3 Z hp
    cases e with
    | normal =>
      obtain ⟨hko, hkp, hi3⟩ := hp
      obtain ⟨Z', hZ', hr, hlZ, hbk⟩ := fin none Z hko
      exact ⟨_, Z', hr, .inl ⟨rfl, ⟨by rw [hZ']; exact hI.put _ _ _ _ _ hi3 (by omega) hlZ rfl, hbk⟩, by rw [hZ']; exact hKt (hKt hkpY hkp) (hKb _ _ _ _ (by omega) hlZ rfl)⟩⟩
    | ret => exact leave .ret Z hp
    | exit id => exact leave (.exit id) Z hp
    | goto t => exact leave (.goto t) Z hp
    | panic ch => exact hp.elim
    | outgrown => exact hp.elim
  · -- behind the iterator
    rintro e Z (⟨⟨v, rfl⟩, ⟨xs, hS, hi, hl, hk⟩ | ⟨pre, hSp, c, hi, hl, hk⟩⟩ | ⟨pre, chain, hT, rfl, hi, hl, hk⟩)
    · have hr := run_endLoop (P := P) hl (by rw [hrec]; simp [rec'])
      rw [hrec] at hr
      exact ⟨none, _, hr, hdone _ xs _ rfl hS (hI.put _ _ _ _ _ hi (by omega) hl rfl) ((World.putObj_heap_other (by omega)).trans hk)⟩
    · have hr := run_endLoop (P := P) hl (by rw [hrec]; simp [rec'])
      rw [hrec] at hr
      exact ⟨some c, _, hr, hstop _ c pre _ rfl hSp ((hIx c).put _ _ _ _ _ hi (by omega) hl rfl) ((World.putObj_heap_other (by omega)).trans hk)⟩
    · exact hthrow _ pre chain _ rfl hT hi hk
end
end Go.Proofs.Ytpoinhfkgnkedaa.M
namespace Go.Proofs.Ytpoinhfkgnkedaa.M
open Go.RowKit
theorem al_at (w : World) (o : Obj) : (w.alloc o).heap[w.heap.size]? = some o := Array.getElem?_push_size
theorem al_eq (w : World) (o : Obj) (q : Nat) (h : w.heap.size = q) : (w.alloc o).heap[q]? = some o := by
  subst h; exact al_at w o
theorem al_keep {w : World} {k : Nat} {o : Obj} (h : w.heap[k]? = some o) (o' : Obj) : (w.alloc o').heap[k]? = some o := by
  rw [Below.heap_alloc w o' k (lt_of h)]; exact h
theorem cl_of {w : World} {k : Nat} {cs : Array Value} {t : TypeId} (h : w.heap[k]? = some (.cells cs t)) (j : Nat) : w.cell? ⟨k, j, none⟩ = cs[j]? := by
  unfold World.cell?; rw [h]; rfl
end Go.Proofs.Ytpoinhfkgnkedaa.M
namespace Go.Proofs.Ytpoinhfkgnkedaa.M
open Go.RowKit Go.Shelf
set_option linter.unusedVariables false
set_option linter.unusedSectionVars false
set_option linter.unusedSimpArgs false
attribute [local go_sem] Oper.semAt_some
def u8s (l : List Int) : List Value := l.map (.int .u8)
theorem u8s_len (l : List Int) : (u8s l).length = l.length := by simp [u8s]
theorem u8s_at {l : List Int} {i : Nat} {x : Int} (h : l[i]? = some x) : (u8s l)[i]? = some (.int .u8 x) := by simp [u8s, h]
def ByteL (l : List Int) : Prop := ∀ x ∈ l, 0 ≤ x ∧ x ≤ 255
def NoT {α : Type} (pre : List α) (chain : List PanicEntry) : Prop := False
theorem back_c (a : Option Addr) (n c : Nat) (w : World) : Calls Try.prog 60 #[.slice a n c] w fun e w' => e = .returned (.func (.func 75) #[] #[.pointer (some ⟨w.heap.size, 0, none⟩)]) ∧ w' = w.alloc (.cells #[.slice a n c] 26) := by
  have hmf : ∀ (fn : Fn) (first cap : Array Value) (w : World), (Instr.makeFunc fn first cap).run Try.prog w = .ok (.func fn first cap) w := fun _ _ _ _ => rfl
  go_enter Try.func60, Try.ntmps60
  go_wp2_with fail
  go_ret
  exact ⟨rfl, rfl⟩
/-- The blocks that are meant stay as they are. -/
structure KeepIn (ok : Nat → Prop) (W W' : World) : Prop where
  size : W.heap.size ≤ W'.heap.size
  same : ∀ b, ok b → b < W.heap.size → W'.heap[b]? = W.heap[b]?
theorem KeepIn.refl (ok : Nat → Prop) (W : World) : KeepIn ok W W := ⟨Nat.le_refl _, fun _ _ _ => rfl⟩
theorem KeepIn.trans {ok : Nat → Prop} {U V W : World} (h : KeepIn ok U V) (k : KeepIn ok V W) : KeepIn ok U W := ⟨Nat.le_trans h.size k.size, fun b hb hl => (k.same b hb (by have := h.size; omega)).trans (h.same b hb hl)⟩
theorem KeepIn.cell {ok : Nat → Prop} {V W : World} (h : KeepIn ok V W) {p : Addr} {v : Value} (hp : ok p.block) (hc : V.cell? p = some v) : W.cell? p = some v := by
  have h1 := h.same p.block hp (cell_lt hc)
  rw [← hc]
  unfold World.cell?
  rw [h1]
theorem KeepIn.of_but {ok : Nat → Prop} {V W : World} {L : List Nat} (h : But L V W) (hL : ∀ x ∈ L, ¬ ok x) : KeepIn ok V W := ⟨h.size, fun b hb hl => h.block b hl (fun hm => hL b hm hb)⟩
def encB (x : Int × Int) : Array Value := #[.int .i64 x.1, .int .u8 x.2]
def AnyA (x : Int × Int) (w : World) : Prop := 0 ≤ x.2 ∧ x.2 ≤ 255
def BAll (bs : List Int) (xs : List (Int × Int)) : Prop := xs.map Prod.snd = bs.reverse
def AfterB (ok : Nat → Prop) (J Jx : List (Int × Int) → World → Prop) (W : World) (pre : List (Int × Int)) (bo : Bool) (W' : World) : Prop := if bo = true then J pre W' ∧ KeepIn ok W W' else Jx pre W'
set_option maxRecDepth 100000 in
set_option maxHeartbeats 4000000 in
theorem back1_in (n : Nat) (hn : 1 ≤ n) (l P : Nat) (ok : Nat → Prop) (s : Value) (bs : List Int) (J Jx : List (Int × Int) → World → Prop) (W : World)
    (hY : ∀ pre x W1, J pre W1 → AnyA x W1 → pre.length < bs.length → YieldAt Fence.wide (n - 1) Try.prog l (encB x) W1 fun e W' =>
      (e = .returned (.bool true) ∧ J (pre ++ [x]) W' ∧ KeepIn ok W1 W') ∨ (e = .returned (.bool false) ∧ Jx (pre ++ [x]) W'))
    (hP : W.heap[P]? = some (.cells #[s] 26)) (hs : Sees W s (u8s bs)) (hr : ∀ x ∈ bs, 0 ≤ x ∧ x ≤ 255) (hl : bs.length ≤ 1000000000000) (hPn : ok P) (hsn : ∀ b, s.ownBlock = some b → ok b) (h0 : J [] W) :
    CallsIn Fence.wide n Try.prog 75 #[.func (.yield l) #[] #[], .pointer (some ⟨P, 0, none⟩)] W (SeqPost (BAll bs) (fun _ => True) NoT J Jx) := by
  obtain ⟨a, c, rfl, hsc⟩ : ∃ a c, s = .slice a bs.length c ∧ ∀ (i : Nat) (x : Int), bs[i]? = some x → ∃ ad, a = some ad ∧ W.cell? (ad.add i) = some (.int .u8 x) := by
    rcases hs with ⟨rfl, h⟩ | ⟨ad, c, rfl, _, h⟩
    · have h0 : bs = [] := by simpa [u8s] using h
      subst h0
      exact ⟨none, 0, rfl, fun i x hx => by simp at hx⟩
    · exact ⟨some ad, c, by rw [u8s_len], fun i x hx => ⟨ad, rfl, h i _ (u8s_at hx)⟩⟩
  have c0 : W.cell? ⟨P, 0, none⟩ = some (.slice a bs.length c) := cl_of hP 0
  have C0 := Lib.hid (fun wr (h : KeepIn ok W wr) => h.cell (p := ⟨P, 0, none⟩) hPn c0)
  have hl0 : (0 : Int) ≤ bs.length := by omega
  have HSC := Lib.hid hsc
  have HY := Lib.hid hY
  have HSN := Lib.hid hsn
  have HR0 := Lib.hid hr
  clear hr
  clear hP hsc hY hsn hPn
  refine callsIn_of_wp Try.func75 rfl trivial ?_ rfl
  simp only [Try.ntmps75, List.size_toArray, List.length_cons, List.length_nil, Nat.reduceAdd, Nat.reduceSub, Array.replicate_succ, Array.replicate_zero, List.push_toArray, List.append_toArray, List.nil_append, List.cons_append]
  have hw0 : wrap64 ((bs.length : Int) - 1) = bs.length - 1 := by rw [wrap64]; omega
  gi_wp2
  clear c0
  gi_loopw [3] (fun i wr => ∃ (j : Nat) (pre : List (Int × Int)), j ≤ bs.length ∧ i = .int .i64 ((j : Int) - 1) ∧ J pre wr ∧ pre.map Prod.snd = (bs.drop j).reverse ∧ KeepIn ok W wr) (fun i _ => (intOf i + 1).toNat)
  case atStart =>
    exact ⟨bs.length, [], Nat.le_refl _, rfl, h0, by simp, KeepIn.refl _ _⟩
  case round =>
    obtain ⟨j, pre, hj, rfl, hJ, hpre, hb⟩ := hrel
    have HJP := Lib.hid hJ
    have HPRE := Lib.hid hpre
    have HB := Lib.hid hb
    have c0 := C0.out wr hb
    clear hJ hpre hb h0
    cases j with
    | zero =>
      have HEND : Hid (SeqPost (BAll bs) (fun _ => True) NoT J Jx (.returned (.tuple #[])) wr) := Lib.hid (.inl ⟨⟨_, rfl⟩, .inl ⟨pre, by have h := HPRE.out; simpa [BAll] using h, HJP.out⟩⟩)
      gi_wp2
      refine bodyPost_ret (results_none rfl _ _ _) rfl ?_
      exact HEND.out
    | succ j =>
      obtain ⟨x, hx⟩ : ∃ x, bs[j]? = some x := ⟨_, List.getElem?_eq_getElem (by omega)⟩
      obtain ⟨ad, rfl, hc⟩ := HSC.out j x hx
      have d0 : wr.cell? (ad.add j) = some (.int .u8 x) := HB.out.cell (p := ad.add j) (by rw [block_of_add]; exact HSN.out _ rfl) hc
      have hj1 : ((j + 1 : Nat) : Int) - 1 = j := by omega
      have hj0 : (0 : Int) ≤ j := by omega
      have hj2 : (j : Int) < bs.length := by omega
      have hplen : pre.length < bs.length := by
        have h := congrArg List.length HPRE.out
        simp only [List.length_map, List.length_reverse, List.length_drop] at h
        omega
      have hnew : ((pre ++ [((j : Int), x)]).map Prod.snd) = (bs.drop j).reverse := by
        rw [List.map_append, HPRE.out, List.drop_eq_getElem_cons (i := j) (by omega), List.reverse_cons]
        have hxx : bs[j] = x := (List.getElem?_eq_some_iff.1 hx).2
        rw [hxx]
        rfl
      have HNEW := Lib.hid hnew
      rw [hj1]
      have hyy : YieldAt Fence.wide (n - 1) Try.prog l (encB ((j : Int), x)) wr fun e W' => ∃ bo, e = .returned (.bool bo) ∧ AfterB ok J Jx W (pre ++ [((j : Int), x)]) bo W' := by
        refine YieldAt.mono (HY.out pre ((j : Int), x) wr HJP.out (HR0.out x (List.mem_of_getElem? hx)) hplen) ?_
        rintro e W' (⟨he, h⟩ | ⟨he, h⟩)
        · exact ⟨true, he, by unfold AfterB; rw [if_pos rfl]; exact ⟨h.1, HB.out.trans h.2⟩⟩
        · exact ⟨false, he, by unfold AfterB; rw [if_neg (by decide)]; exact h⟩
      obtain ⟨fn, tmps, assign, body, hy, hR⟩ := hyy
      have HRR := Lib.hid hR
      clear hc hx hplen hnew hR
      unfold encB at hy
      gi_wp2
      refine HRR.out.mono ?_
      rintro e w8 ⟨bo, rfl, hbo⟩
      have HBO := Lib.hid hbo
      clear hbo
      cases bo with
      | true =>
        have HJ8 : Hid (J (pre ++ [((j : Int), x)]) w8 ∧ KeepIn ok W w8) := Lib.hid (by have h := HBO.out; unfold AfterB at h; rwa [if_pos rfl] at h)
        have hw1 : wrap64 ((j : Int) - 1) = j - 1 := by rw [wrap64]; omega
        clear HBO HRR hy
        gi_wp2
        go_roundw
        case rel => exact ⟨j, pre ++ [((j : Int), x)], by omega, rfl, HJ8.out.1, HNEW.out, HJ8.out.2⟩
        case measure => simp [intOf]
      | false =>
        have HJ8 : Hid (Jx (pre ++ [((j : Int), x)]) w8) := Lib.hid (by have h := HBO.out; unfold AfterB at h; rwa [if_neg (by decide)] at h)
        clear HBO HRR hy
        gi_wp2
        refine bodyPost_ret (results_none rfl _ _ _) rfl ?_
        exact .inl ⟨⟨_, rfl⟩, .inr ⟨_, trivial, HJ8.out⟩⟩
/-- The iterator's contract. -/
theorem back_seq (n : Nat) (hn : 1 ≤ n) (P : Nat) (ok : Nat → Prop) (s : Value) (bs : List Int) (w : World) (hP : w.heap[P]? = some (.cells #[s] 26)) (hs : Sees w s (u8s bs)) (hr : ∀ x ∈ bs, 0 ≤ x ∧ x ≤ 255) (hl : bs.length ≤ 1000000000000) (hPn : ok P) (hsn : ∀ b, s.ownBlock = some b → ok b) :
    SeqB Fence.wide n Try.prog 75 #[.pointer (some ⟨P, 0, none⟩)] encB AnyA (KeepIn ok) (BAll bs) (fun _ => True) NoT bs.length w := fun l J Jx W hW hJ hJx hY h0 =>
  back1_in n hn l P ok s bs J Jx W hY (hW.heap hP (by simp)) (hs.but hW (by simp)) hr hl hPn hsn h0
end Go.Proofs.Ytpoinhfkgnkedaa.M
namespace Go.Proofs.Ytpoinhfkgnkedaa.M
open Go.RowKit Go.Shelf
set_option linter.unusedVariables false
set_option linter.unusedSectionVars false
set_option linter.unusedSimpArgs false
attribute [local go_sem] Oper.semAt_some
theorem ofInt_i64 (a : Nat) (ha : a < 18446744073709551616) : (BitVec.ofInt 64 (a : Int)).toNat = a := by
  rw [BitVec.ofInt_natCast, BitVec.toNat_ofNat]; exact Nat.mod_eq_of_lt (by omega)
theorem join64 {n c : Int} (h1 : 0 ≤ n) (h2 : n < 4294967296) (h3 : 0 ≤ c) (h4 : c ≤ 255) : bits .or .i64 (n * 256) c = n * 256 + c := by
  obtain ⟨N, rfl⟩ := Int.eq_ofNat_of_zero_le h1
  obtain ⟨C, rfl⟩ := Int.eq_ofNat_of_zero_le h3
  rw [show ((N : Int) * 256) = ((N * 256 : Nat) : Int) from by omega]
  show IntKind.i64.wrap ((BitVec.ofInt 64 ((N * 256 : Nat) : Int) ||| BitVec.ofInt 64 (C : Int)).toNat : Int) = _
  rw [BitVec.toNat_or, ofInt_i64 _ (by omega), ofInt_i64 _ (by omega), nat_join 8 (N * 256) C (by omega) (by omega), IntKind.wrap_i64]
  omega
/-- The number that bytes are, the lowest first. -/
def leV (bs : List Int) : Int := bs.foldr (fun x n => n * 256 + x) 0
def valR (pre : List (Int × Int)) : Int := (pre.map Prod.snd).foldl (fun n x => n * 256 + x) 0
theorem valR_all {bs : List Int} {pre : List (Int × Int)} (h : BAll bs pre) : valR pre = leV bs := by
  unfold valR leV
  rw [h, List.foldl_reverse]
theorem valR_more (pre : List (Int × Int)) (x : Int × Int) : valR (pre ++ [x]) = valR pre * 256 + x.2 := by simp [valR]
theorem fold_bound : ∀ (l : List Int) (n : Int) (k : Nat), (∀ x ∈ l, 0 ≤ x ∧ x ≤ 255) → 0 ≤ n → n < 256 ^ k → 0 ≤ l.foldl (fun n x => n * 256 + x) n ∧ l.foldl (fun n x => n * 256 + x) n < 256 ^ (k + l.length)
  | [], n, k, _, h0, h1 => ⟨h0, h1⟩
  | x :: l, n, k, h, h0, h1 => by
    have hx := h x List.mem_cons_self
    have hp : (256 : Int) ^ (k + 1) = 256 ^ k * 256 := Int.pow_succ _ _
    have h2 := fold_bound l (n * 256 + x) (k + 1) (fun y hy => h y (List.mem_cons_of_mem _ hy)) (by omega) (by omega)
    rw [List.foldl_cons, List.length_cons, show k + (l.length + 1) = k + 1 + l.length from by omega]
    exact h2
theorem valR_bound {pre : List (Int × Int)} (h : ∀ x ∈ pre, 0 ≤ x.2 ∧ x.2 ≤ 255) (hl : pre.length < 4) : 0 ≤ valR pre ∧ valR pre < 16777216 := by
  have h1 := fold_bound (pre.map Prod.snd) 0 0 (by simp only [List.mem_map]; rintro x ⟨y, hy, rfl⟩; exact h y hy) (by omega) (by decide)
  rw [List.length_map] at h1
  refine ⟨h1.1, Int.lt_of_lt_of_le h1.2 ?_⟩
  rw [Nat.zero_add]
  have hk : ∀ k : Nat, k < 4 → (256 : Int) ^ k ≤ 16777216 := by decide
  exact hk _ hl
theorem heap_far {w w' : World} {k : Nat} {cs : Array Value} {t : TypeId} {f : Nat × Nat} {L : List Nat} (h : w.heap[k]? = some (.cells cs t f)) (hb : But L w w') {B : Nat} (hL : ∀ x ∈ L, B ≤ x ∧ ∃ o, w.heap[x]? = some o ∧ o.isCells = false) : w'.heap[k]? = some (.cells cs t f) :=
  hb.heap h (fun hm => by
    obtain ⟨_, o, ho, hoc⟩ := hL k hm
    rw [h] at ho
    cases ho
    cases hoc)
theorem add_zero (ad : Addr) : ad.add 0 = ad := by simp [Addr.add]
theorem Sees.head {w : World} {ad : Addr} {c n : Nat} {l : List Int} (h : Sees w (.slice (some ad) l.length c) (u8s l)) (hn : n ≤ l.length) : Sees w (.slice (some ad) n c) (u8s (l.take n)) := by
  rcases h with ⟨h, _⟩ | ⟨ad', c', h, hc, hx⟩
  · cases h
  · simp only [Value.slice.injEq, Option.some.injEq] at h
    obtain ⟨rfl, hl, rfl⟩ := h
    rw [u8s_len] at hc
    refine .inr ⟨ad, c, by rw [u8s_len, List.length_take, Nat.min_eq_left hn], by rw [u8s_len, List.length_take]; omega, fun j u hj => hx j u ?_⟩
    rw [u8s, List.map_take, List.getElem?_take] at hj
    split at hj
    · exact hj
    · cases hj
theorem Sees.len {w : World} {ad : Addr} {c n : Nat} {xs : List Value} (h : Sees w (.slice (some ad) n c) xs) : n ≤ c ∧ xs.length = n := by
  rcases h with ⟨h, _⟩ | ⟨ad', c', h, hc, hx⟩
  · cases h
  · simp only [Value.slice.injEq, Option.some.injEq] at h
    obtain ⟨rfl, rfl, rfl⟩ := h
    exact ⟨hc, rfl⟩
theorem Sees.low {w : World} {v : Value} {xs : List Value} (h : Sees w v xs) (hx : 0 < xs.length) : ∀ b, v.ownBlock = some b → b < w.heap.size := by
  rcases h with ⟨rfl, h⟩ | ⟨ad, c, rfl, hc, h⟩
  · subst h; simp at hx
  · intro b hb
    have h0 := h 0 (xs[0]) (List.getElem?_eq_getElem hx)
    have := cell_lt h0
    rw [block_of_add] at this
    cases hb
    exact this
/-- What stands between two rounds. -/
structure WhI (w : World) (B : Nat) (pre : List (Int × Int)) (W : World) : Prop where
  box : W.heap[B]? = some (.cells #[.int .i64 (valR pre)] 3)
  ok : ∀ x ∈ pre, 0 ≤ x.2 ∧ x.2 ≤ 255
  but : But [] w W
theorem WhI.abides (w : World) (B : Nat) (hB : w.heap.size ≤ B) : Abides (B + 1) (WhI w B) := Abides.of_but fun pre V W L h hb hL =>
  ⟨heap_far h.box hb hL, h.ok, h.but.trans hb (fun x hx => .inr (by have := (hL x hx).1; omega))⟩
theorem WhI.abides2 (w : World) (B : Nat) (hB : w.heap.size ≤ B) : Abides (B + 2) (WhI w B) := (WhI.abides w B hB).mono (by omega)
theorem anyA_abides (B : Nat) : Abides B AnyA := ⟨fun _ _ _ h _ => h, fun _ _ _ _ _ h _ _ _ => h⟩
theorem WhI.more {w W : World} {B : Nat} {pre : List (Int × Int)} {x : Int × Int} (hB : w.heap.size ≤ B) (h : WhI w B pre W) (hx : AnyA x W) :
    KeepsOthers W (W.setCell ⟨B, 0, none⟩ (.int .i64 (valR pre * 256 + x.2))) ∧ (∀ ok : Nat → Prop, ¬ ok B → KeepIn ok W (W.setCell ⟨B, 0, none⟩ (.int .i64 (valR pre * 256 + x.2)))) ∧ WhI w B (pre ++ [x]) (W.setCell ⟨B, 0, none⟩ (.int .i64 (valR pre * 256 + x.2))) := by
  have hs : But [B] W (W.setCell ⟨B, 0, none⟩ (.int .i64 (valR pre * 256 + x.2))) := (But.refl _ _).setCell (.inl (by simp)) _
  refine ⟨keepsOthers_of_but hs (fun y hy => ?_), fun ok hok => KeepIn.of_but hs (fun y hy => by simp at hy; subst hy; exact hok), ?_, fun y hy => ?_, h.but.trans hs (fun y hy => .inr (by simp at hy; omega))⟩
  · simp only [List.mem_singleton] at hy
    subst hy
    exact ⟨_, _, _, h.box⟩
  · rw [valR_more]
    simp [World.setCell, Array.getElem?_modify, h.box]
  · rcases List.mem_append.1 hy with hy | hy
    · exact h.ok y hy
    · simp only [List.mem_singleton] at hy
      subst hy
      exact hx
set_option maxRecDepth 100000 in
set_option maxHeartbeats 4000000 in
theorem many_w (ad : Addr) (c0 : Nat) (ks : List Int) (w : World) (hs0 : Sees w (.slice (some ad) ks.length c0) (u8s ks)) (hr0 : ByteL ks) (h4 : 4 ≤ ks.length) :
    CallsIn Fence.wide 3 Try.prog 45 #[.slice (some ad) ks.length c0] w fun e w' => e = .returned (.int .i64 (leV (ks.take 4))) ∧ But [] w w' := by
  have hs : Sees w (.slice (some ad) 4 c0) (u8s (ks.take 4)) := hs0.head h4
  have hc4 := hs.len.1
  have hr : ∀ x ∈ ks.take 4, 0 ≤ x ∧ x ≤ 255 := fun x hx => hr0 x (List.mem_of_mem_take hx)
  have hl : (ks.take 4).length = 4 := by rw [List.length_take]; omega
  have hsn := hs.low (by rw [u8s_len]; omega)
  generalize ks.take 4 = bs at *
  have h1 : 1 ≤ 3 := by decide
  obtain ⟨w1, hw1⟩ : ∃ w1, w1 = (w.alloc (.cells #[.int .i64 0] 3)).alloc (.cells #[.slice (some ad) 4 c0] 26) := ⟨_, rfl⟩
  have hb1 : But [] w w1 := by rw [hw1]; exact ((But.refl [] w).alloc _).alloc _
  have hz1 : w1.heap.size = w.heap.size + 2 := by rw [hw1, size_alloc, size_alloc]
  have g0 : w1.heap[w.heap.size]? = some (.cells #[.int .i64 0] 3) := by rw [hw1]; exact al_keep (al_at w _) _
  have g1 : w1.heap[w.heap.size + 1]? = some (.cells #[.slice (some ad) 4 c0] 26) := by rw [hw1]; exact al_eq _ _ _ (by rw [size_alloc])
  have HW := Lib.hid hw1
  have HS := Lib.hid (back_seq 2 (by omega) (w.heap.size + 1) (fun b => b ≠ w.heap.size ∧ b < w.heap.size + 2) (.slice (some ad) 4 c0) bs w1 g1 (hs.but hb1 (by simp)) hr (by omega) ⟨by omega, by omega⟩ (fun b hb => by have := hsn b hb; omega))
  have HI0 : Hid (WhI w w.heap.size [] w1) := Lib.hid ⟨g0, by simp, hb1⟩
  have HZ := Lib.hid hz1
  have hca : ¬ (c0 = 0) := by omega
  have ha0 := add_zero ad
  clear hw1 hb1 g0 g1 hs hr hsn hz1 hs0 hr0
  refine callsIn_of_wp_marks Try.func45 rfl trivial ?_ rfl
  simp only [Try.ntmps45, List.size_toArray, List.length_cons, List.length_nil, Nat.reduceAdd, Nat.reduceSub, Array.replicate_succ, Array.replicate_zero, List.push_toArray, List.append_toArray, List.nil_append, List.cons_append]
  gi_wp2
  refine ⟨trivial, ?_⟩
  refine (callsIn_wide.2 (back_c _ _ _ _)).mono ?_
  rintro e w2 ⟨rfl, rfl⟩
  gi_wp2
  rw [← HW.out]
  refine wpIn_rangeFunc_but rfl h1 (gf := 75) (lb := #[.pointer (some ⟨w.heap.size + 1, 0, none⟩)]) rfl trivial (enters_of Try.func75 (by kernel_rfl) rfl) HS.out
    (fun h k => h.trans k) (fun hz hb => KeepIn.of_but hb (by simp)) (fun V l o o' hl hV ho => KeepIn.of_but (but_putObj o' hV) (by have := HZ.out; simp only [List.mem_singleton]; rintro x rfl ⟨h1, h2⟩; omega)) (anyA_abides _) (But.refl _ _) (fun _ => rfl)
    (WhI w w.heap.size) (fun _ _ _ => False) (HZ.out ▸ WhI.abides2 w w.heap.size (Nat.le_refl _)) (fun _ => Abides.none _) HI0.out
    (fun x a' _ => a' = { tmps := #[.slice (some ad) ks.length c0, undef, .int .i64 0, .pointer (some ⟨w.heap.size, 0, none⟩), undef, .int .u8 x.2, .slice (some ad) ks.length c0, .slice (some ad) 4 c0, .func (.func 75) #[] #[.pointer (some ⟨w.heap.size + 1, 0, none⟩)], .int .i64 x.1, .int .u8 x.2, undef, undef, undef, undef, undef, undef], defers := [] })
    (fun a' => ⟨fun _ _ _ h _ => h, fun _ _ _ _ _ h _ _ _ => h⟩) ?assign ?body ?done ?stop ?throw
  case assign =>
    intro l pre x W K _ _ _ hK
    simp only [encB]
    gi_wp2
    exact hK _ _ (But.refl _ _) rfl
  case body =>
    rintro l pre x a' W hx0 hI hx _ hlt
    subst hx0
    have hc : W.cell? ⟨w.heap.size, 0, none⟩ = some (.int .i64 (valR pre)) := cl_of hI.box 0
    have hf : W.frozen? ⟨w.heap.size, 0, none⟩ = false := by (unfold World.frozen?; rw [hI.box]; simp)
    have hv := valR_bound hI.ok (by omega)
    obtain ⟨hv0, hv1⟩ := hv
    obtain ⟨i, c⟩ := x
    obtain ⟨hx0, hx1⟩ := id hx
    simp only at hx0 hx1
    have HRES := Lib.hid (hI.more (Nat.le_refl _) hx)
    have hj : bits .or .i64 (valR pre * 256) c = valR pre * 256 + c := join64 hv0 (by omega) hx0 (by omega)
    have hw8 : IntKind.i64.wrap (valR pre * 256) = valR pre * 256 := by rw [IntKind.wrap_i64]; omega
    have hwc : IntKind.i64.wrap c = c := by rw [IntKind.wrap_i64]; omega
    have hw8' : wrap64 (valR pre * 256) = valR pre * 256 := by rw [wrap64]; omega
    have hwc' : wrap64 c = c := by rw [wrap64]; omega
    clear hI hx
    gi_wp2
    exact ⟨HRES.out.1, HRES.out.2.1 _ (fun h => h.1 rfl), HRES.out.2.2⟩
  case done =>
    rintro D ys W rfl hS hI hK
    have hv : valR ys = leV bs := valR_all hS
    have hc : W.cell? ⟨w.heap.size, 0, none⟩ = some (.int .i64 (leV bs)) := by rw [← hv]; exact cl_of hI.box 0
    have hb2 : But [w1.heap.size] W (W.putObj w1.heap.size (.deferred none)) := but_putObj _ hK
    have HEND := Lib.hid (show But [] w (W.putObj w1.heap.size (.deferred none)) from hI.but.trans hb2 (fun x hx => .inr (by have := HZ.out; simp at hx; omega)))
    clear hI hS
    gi_wp2
    refine ⟨by simp, .inl ⟨_, _, rfl, run_takeDeferred hK, ?_⟩⟩
    refine ⟨_, results_tmp rfl _ _ _, ?_⟩
    exact ⟨by first | rfl | (rw [IntKind.wrap_i32]; rfl) | (simp [IntKind.wrap_i32, wrap32, Array.getD]), HEND.out⟩
  case stop =>
    rintro D c pre W _ _ h _
    exact h.elim
  case throw =>
    rintro D pre chain W _ h _ _
    exact h.elim
end Go.Proofs.Ytpoinhfkgnkedaa.M
namespace Go.Proofs.Ytpoinhfkgnkedaa.M
open Go.RowKit Go.Shelf
set_option linter.unusedVariables false
set_option linter.unusedSectionVars false
set_option linter.unusedSimpArgs false
attribute [local go_sem] Oper.semAt_some
theorem many_c (ad : Addr) (c0 : Nat) (ks : List Int) (w : World) (hs0 : Sees w (.slice (some ad) ks.length c0) (u8s ks)) (hr0 : ByteL ks) (h4 : 4 ≤ ks.length) : Calls Try.prog 45 #[.slice (some ad) ks.length c0] w fun e w' => e = .returned (.int .i64 (leV (ks.take 4))) ∧ But [] w w' :=
  callsIn_wide.1 (many_w ad c0 ks w hs0 hr0 h4)
def kbit (ks : List Int) (k : Nat) : Int := (ks.getD (4 + k / 8) 0) / 2 ^ (7 - k % 8) % 2
def kmany (ks : List Int) : Nat := (leV (ks.take 4)).toNat
def kbits (ks : List Int) : List Int := (List.range (kmany ks)).map (kbit ks)
theorem kbits_len (ks : List Int) : (kbits ks).length = kmany ks := by simp [kbits]
theorem kbit_01 (ks : List Int) (k : Nat) : kbit ks k = 0 ∨ kbit ks k = 1 := by
  unfold kbit
  omega
theorem and1_nat : ∀ N : Nat, N < 256 → bits .and .u8 (N : Int) 1 = (N : Int) % 2 := by decide +kernel
theorem and1 {y : Int} (h0 : 0 ≤ y) (h1 : y ≤ 255) : bits .and .u8 y 1 = y % 2 := by
  obtain ⟨N, rfl⟩ := Int.eq_ofNat_of_zero_le h0
  exact and1_nat N (by omega)
theorem shr_le {x : Int} (h0 : 0 ≤ x) (h1 : x ≤ 255) (j : Nat) : 0 ≤ x / 2 ^ j ∧ x / 2 ^ j ≤ 255 := by
  have hp : (0 : Int) < 2 ^ j := Int.pow_pos (by decide)
  exact ⟨Int.ediv_nonneg h0 (Int.le_of_lt hp), Int.le_trans (Int.ediv_le_self _ h0) h1⟩
theorem leV_nonneg : ∀ (l : List Int), (∀ x ∈ l, 0 ≤ x) → 0 ≤ leV l
  | [], _ => by simp [leV]
  | x :: l, h => by
    have h1 := leV_nonneg l (fun y hy => h y (List.mem_cons_of_mem _ hy))
    have h2 := h x List.mem_cons_self
    show 0 ≤ leV l * 256 + x
    omega
/-- A right key: its bits lie in it. -/
structure KeyOk (ks : List Int) : Prop where
  bytes : ByteL ks
  four : 4 ≤ ks.length
  long : ks.length ≤ 1000000000
  fits : leV (ks.take 4) ≤ 8 * ((ks.length : Int) - 4)
theorem KeyOk.many {ks : List Int} (h : KeyOk ks) : leV (ks.take 4) = kmany ks := by
  have := leV_nonneg (ks.take 4) (fun x hx => (h.bytes x (List.mem_of_mem_take hx)).1)
  unfold kmany
  omega
theorem KeyOk.le {ks : List Int} (h : KeyOk ks) : kmany ks ≤ 8 * (ks.length - 4) := by
  have h1 := h.many
  have h2 := h.fits
  have h3 := h.four
  omega
theorem KeyOk.at' {ks : List Int} (h : KeyOk ks) {k : Nat} (hk : k < kmany ks) : ∃ x, ks[4 + k / 8]? = some x ∧ 0 ≤ x ∧ x ≤ 255 ∧ kbit ks k = x / 2 ^ (7 - k % 8) % 2 := by
  have h1 := h.le
  have h2 : 4 + k / 8 < ks.length := by omega
  refine ⟨ks[4 + k / 8], List.getElem?_eq_getElem h2, (h.bytes _ (List.getElem_mem h2)).1, (h.bytes _ (List.getElem_mem h2)).2, ?_⟩
  unfold kbit
  rw [List.getD_eq_getElem?_getD, List.getElem?_eq_getElem h2]
  rfl
theorem kbits_take {ks : List Int} {k : Nat} (hk : k < kmany ks) : (kbits ks).take (k + 1) = (kbits ks).take k ++ [kbit ks k] := by
  rw [List.take_add_one, kbits, List.getElem?_map, List.getElem?_range hk]
  rfl
theorem bits_c (a : Option Addr) (n c : Nat) (w : World) : Calls Try.prog 36 #[.slice a n c] w fun e w' => e = .returned (.func (.func 54) #[] #[.pointer (some ⟨w.heap.size, 0, none⟩)]) ∧ w' = w.alloc (.cells #[.slice a n c] 26) := by
  have hmf : ∀ (fn : Fn) (first cap : Array Value) (w : World), (Instr.makeFunc fn first cap).run Try.prog w = .ok (.func fn first cap) w := fun _ _ _ _ => rfl
  go_enter Try.func36, Try.ntmps36
  go_wp2_with fail
  go_ret
  exact ⟨rfl, rfl⟩
theorem wrap_up {k : Nat} (h : k < 1000000000000) : wrap64 ((k : Int) + 1) = k + 1 := by rw [wrap64]; omega
theorem meas_up {m k : Nat} (h : k < m) : m - (intOf (.int .i64 ((k : Int) + 1))).toNat < m - (intOf (.int .i64 (k : Int))).toNat := by
  simp only [intOf]
  omega
def encI (x : Int) : Array Value := #[.int .i64 x]
def Any01 (x : Int) (w : World) : Prop := x = 0 ∨ x = 1
def AfterI (ok : Nat → Prop) (J Jx : List Int → World → Prop) (W : World) (pre : List Int) (bo : Bool) (W' : World) : Prop := if bo = true then J pre W' ∧ KeepIn ok W W' else Jx pre W'
set_option maxRecDepth 100000 in
set_option maxHeartbeats 4000000 in
theorem bits1_in (n : Nat) (hn : 2 ≤ n) (l P : Nat) (ok : Nat → Prop) (ad : Addr) (cp : Nat) (ks : List Int) (J Jx : List Int → World → Prop) (W : World)
    (hY : ∀ pre x W1, J pre W1 → Any01 x W1 → pre.length < (kbits ks).length → YieldAt Fence.wide (n - 1) Try.prog l (encI x) W1 fun e W' =>
      (e = .returned (.bool true) ∧ J (pre ++ [x]) W' ∧ KeepIn ok W1 W') ∨ (e = .returned (.bool false) ∧ Jx (pre ++ [x]) W'))
    (hJ : Abides W.heap.size J)
    (hP : W.heap[P]? = some (.cells #[.slice (some ad) ks.length cp] 26)) (hs : Sees W (.slice (some ad) ks.length cp) (u8s ks)) (hk : KeyOk ks) (hPn : ok P) (hsn : ok ad.block) (h0 : J [] W) :
    CallsIn Fence.wide n Try.prog 54 #[.func (.yield l) #[] #[], .pointer (some ⟨P, 0, none⟩)] W (SeqPost (fun xs => xs = kbits ks) (fun pre => pre <+: kbits ks) NoT J Jx) := by
  have hsc : ∀ (i : Nat) (x : Int), ks[i]? = some x → W.cell? (ad.add i) = some (.int .u8 x) := by
    rcases id hs with ⟨h, _⟩ | ⟨ad', c, h, _, hx⟩
    · cases h
    · simp only [Value.slice.injEq, Option.some.injEq] at h
      obtain ⟨rfl, _, rfl⟩ := h
      exact fun i x hx' => hx i _ (u8s_at hx')
  have c0 : W.cell? ⟨P, 0, none⟩ = some (.slice (some ad) ks.length cp) := cl_of hP 0
  have HM := Lib.hid (many_c ad _ ks W hs hk.bytes hk.four)
  have HMM := Lib.hid hk.many
  have HK := Lib.hid hk
  have HSC := Lib.hid hsc
  have HY := Lib.hid hY
  have HSN := Lib.hid hsn
  have HPN := Lib.hid hPn
  have HC0 := Lib.hid c0
  have H0 := Lib.hid h0
  have HJ := Lib.hid hJ
  clear hP hsc hY hsn hPn hs hk h0 hJ
  refine callsIn_of_wp Try.func54 rfl trivial ?_ rfl
  simp only [Try.ntmps54, List.size_toArray, List.length_cons, List.length_nil, Nat.reduceAdd, Nat.reduceSub, Array.replicate_succ, Array.replicate_zero, List.push_toArray, List.append_toArray, List.nil_append, List.cons_append]
  gi_wp2
  refine ⟨trivial, fun _ => by omega, ?_⟩
  refine (callsIn_wide.2 HM.out).mono ?_
  rintro e w2 ⟨rfl, hb2⟩
  have HB2 := Lib.hid hb2
  rw [HMM.out]
  clear hb2 c0
  gi_wp2
  gi_loopw [6] (fun i wr => ∃ (k : Nat), k ≤ kmany ks ∧ i = .int .i64 (k : Int) ∧ J ((kbits ks).take k) wr ∧ KeepIn ok W wr) (fun i _ => kmany ks - (intOf i).toNat)
  case atStart =>
    exact ⟨0, Nat.zero_le _, rfl, HJ.out.new _ _ _ H0.out HB2.out, KeepIn.of_but HB2.out (by simp)⟩
  case round =>
    obtain ⟨k, hk, rfl, hJ, hb⟩ := hrel
    have HJP := Lib.hid hJ
    have HB := Lib.hid hb
    have c0 := hb.cell (p := ⟨P, 0, none⟩) HPN.out HC0.out
    clear hJ hb
    by_cases hlt : k < kmany ks
    · obtain ⟨x, hx, hx0, hx1, hkb⟩ := HK.out.at' hlt
      have d0 : wr.cell? (ad.add (4 + k / 8)) = some (.int .u8 x) := HB.out.cell (p := ad.add (4 + k / 8)) (by rw [block_of_add]; exact HSN.out) (HSC.out _ _ hx)
      have hkl := HK.out.le
      have hk9 := HK.out.long
      have hlt' : (k : Int) < kmany ks := by omega
      have hk0 : (0 : Int) ≤ k := by omega
      have hplen : ((kbits ks).take k).length < (kbits ks).length := by rw [List.length_take, kbits_len]; omega
      have HLT := Lib.hid hlt
      have hyy : YieldAt Fence.wide (n - 1) Try.prog l (encI (kbit ks k)) wr fun e W' => ∃ bo, e = .returned (.bool bo) ∧ AfterI ok J Jx W ((kbits ks).take (k + 1)) bo W' := by
        refine YieldAt.mono (HY.out _ (kbit ks k) wr HJP.out (kbit_01 ks k) hplen) ?_
        rw [kbits_take hlt]
        rintro e W' (⟨he, h⟩ | ⟨he, h⟩)
        · exact ⟨true, he, by unfold AfterI; rw [if_pos rfl]; exact ⟨h.1, HB.out.trans h.2⟩⟩
        · exact ⟨false, he, by unfold AfterI; rw [if_neg (by decide)]; exact h⟩
      rw [hkb] at hyy
      obtain ⟨fn, tmps, assign, body, hy, hR⟩ := hyy
      have HRR := Lib.hid hR
      clear hx hplen hR
      unfold encI at hy
      have hbit : bits .and .u8 (x / 2 ^ (7 - k % 8)) 1 = x / 2 ^ (7 - k % 8) % 2 := and1 (shr_le hx0 hx1 _).1 (shr_le hx0 hx1 _).2
      have hwb : wrap64 (x / 2 ^ (7 - k % 8) % 2) = x / 2 ^ (7 - k % 8) % 2 := by rw [wrap64]; omega
      gi_wp2
      refine ⟨fun _ => by omega, ?_⟩
      refine HRR.out.mono ?_
      rintro e w8 ⟨bo, rfl, hbo⟩
      have HBO := Lib.hid hbo
      have HMS := Lib.hid (meas_up hlt)
      have hw1 : wrap64 ((k : Int) + 1) = k + 1 := wrap_up (by omega)
      have HUP : Hid (k + 1 ≤ kmany ks) := Lib.hid hlt
      have HCS : Hid ((k : Int) + 1 = ((k + 1 : Nat) : Int)) := Lib.hid (by omega)
      clear hbo hbit hwb hkb hx0 hx1 d0 hkl hk9
      cases bo with
      | true =>
        have HJ8 : Hid (J ((kbits ks).take (k + 1)) w8 ∧ KeepIn ok W w8) := Lib.hid (by have h := HBO.out; unfold AfterI at h; rwa [if_pos rfl] at h)
        clear HBO HRR hy
        gi_wp2
        go_roundw
        case rel => exact ⟨k + 1, HUP.out, by rw [hw1, HCS.out], HJ8.out.1, HJ8.out.2⟩
        case measure => rw [hw1]; exact HMS.out
      | false =>
        have HJ8 : Hid (Jx ((kbits ks).take (k + 1)) w8) := Lib.hid (by have h := HBO.out; unfold AfterI at h; rwa [if_neg (by decide)] at h)
        clear HBO HRR hy
        gi_wp2
        refine bodyPost_ret (results_none rfl _ _ _) rfl ?_
        exact .inl ⟨⟨_, rfl⟩, .inr ⟨_, List.take_prefix _ _, HJ8.out⟩⟩
    · obtain rfl : k = kmany ks := by omega
      have HEND : Hid (SeqPost (fun xs => xs = kbits ks) (fun pre => pre <+: kbits ks) NoT J Jx (.returned (.tuple #[])) wr) := Lib.hid (.inl ⟨⟨_, rfl⟩, .inl ⟨_, rfl, by have h := HJP.out; rwa [List.take_of_length_le (by rw [kbits_len]; omega)] at h⟩⟩)
      gi_wp2
      refine bodyPost_ret (results_none rfl _ _ _) rfl ?_
      exact HEND.out
/-- The iterator's contract. -/
theorem bits_seq (n : Nat) (hn : 2 ≤ n) (P : Nat) (ok : Nat → Prop) (ad : Addr) (cp : Nat) (ks : List Int) (w : World) (hP : w.heap[P]? = some (.cells #[.slice (some ad) ks.length cp] 26)) (hs : Sees w (.slice (some ad) ks.length cp) (u8s ks)) (hk : KeyOk ks) (hPn : ok P) (hsn : ok ad.block) :
    SeqB Fence.wide n Try.prog 54 #[.pointer (some ⟨P, 0, none⟩)] encI Any01 (KeepIn ok) (fun xs => xs = kbits ks) (fun pre => pre <+: kbits ks) NoT (kbits ks).length w := fun l J Jx W hW hJ hJx hY h0 =>
  bits1_in n hn l P ok ad cp ks J Jx W hY hJ (hW.heap hP (by simp)) (hs.but hW (by simp)) hk hPn hsn h0
end Go.Proofs.Ytpoinhfkgnkedaa.M
namespace Go.Proofs.Ytpoinhfkgnkedaa.M
open Go.RowKit Go.Shelf
set_option linter.unusedVariables false
set_option linter.unusedSectionVars false
set_option linter.unusedSimpArgs false
def pv (o : Option Nat) : Value := .pointer (o.map fun b => ⟨b, 0, none⟩)
def NodeAt (w : World) (b : Nat) (l r x : Option Nat) : Prop := w.heap[b]? = some (.cells #[pv l, pv r, pv x] 67)
abbrev Path := List Int
/-- The tree: nd: which block the node at a path is; xs: which block its entry is. -/
structure Tree (w : World) (nd xs : Path → Option Nat) : Prop where
  root : ∃ b, nd [] = some b
  closed : ∀ π c b, nd (π ++ [c]) = some b → (c = 0 ∨ c = 1) ∧ ∃ a, nd π = some a
  inj : ∀ π ρ b, nd π = some b → nd ρ = some b → π = ρ
  cell : ∀ π b, nd π = some b → NodeAt w b (nd (π ++ [0])) (nd (π ++ [1])) (xs π)
  ent : ∀ π e, xs π = some e → ∃ b, nd π = some b
theorem Tree.but {w w' : World} {nd xs : Path → Option Nat} {L : List Nat} (h : Tree w nd xs) (hb : But L w w') (hL : ∀ π b, nd π = some b → b ∉ L) : Tree w' nd xs :=
  ⟨h.root, h.closed, h.inj, fun π b hp => hb.heap (h.cell π b hp) (hL π b hp), h.ent⟩
theorem Tree.lt {w : World} {nd xs : Path → Option Nat} (h : Tree w nd xs) {π : Path} {b : Nat} (hp : nd π = some b) : b < w.heap.size := lt_of (h.cell π b hp)
/-- Along a prefix there are nodes. -/
theorem Tree.up {w : World} {nd xs : Path → Option Nat} (h : Tree w nd xs) : ∀ (σ ρ : Path) (b : Nat), nd (ρ ++ σ) = some b → ∃ a, nd ρ = some a
  | [], ρ, b, hb => ⟨b, by simpa using hb⟩
  | c :: σ, ρ, b, hb => by
    obtain ⟨a, ha⟩ := h.up σ (ρ ++ [c]) b (by simpa using hb)
    exact (h.closed _ _ _ ha).2
theorem Tree.none_down {w : World} {nd xs : Path → Option Nat} (h : Tree w nd xs) {ρ π : Path} (hn : nd ρ = none) (hp : ρ <+: π) : nd π = none := by
  obtain ⟨σ, rfl⟩ := hp
  cases hc : nd (ρ ++ σ) with
  | none => rfl
  | some b => obtain ⟨a, ha⟩ := h.up σ ρ b hc; rw [hn] at ha; cases ha
end Go.Proofs.Ytpoinhfkgnkedaa.M
namespace Go.Proofs.Ytpoinhfkgnkedaa.M
open Go.RowKit Go.Shelf
set_option linter.unusedVariables false
set_option linter.unusedSectionVars false
set_option linter.unusedSimpArgs false
attribute [local go_sem] Oper.semAt_some
theorem fz_of {w : World} {k : Nat} {cs : Array Value} {t : TypeId} (h : w.heap[k]? = some (.cells cs t)) (j : Nat) : w.frozen? ⟨k, j, none⟩ = false := by
  unfold World.frozen?
  rw [h]
  simp
theorem any01_abides (B : Nat) : Abides B Any01 := ⟨fun _ _ _ h _ => h, fun _ _ _ _ _ h _ _ _ => h⟩
theorem any01_mem (x : Int) (h : x = 0 ∨ x = 1) : (x = 0 ∨ x = 1) := h
/-- What stands between two rounds. -/
structure RcI (w : World) (nd xs : Path → Option Nat) (pre : Path) (W : World) : Prop where
  here : ∃ b, nd pre = some b ∧ W.heap[w.heap.size]? = some (.cells #[pv (some b)] 57)
  grow : W.heap[w.heap.size + 1]? = some (.cells #[.bool false] 4)
  res : W.heap[w.heap.size + 2]? = some (.cells #[.pointer none] 57)
  but : But [] w W
structure RcX (w : World) (nd : Path → Option Nat) (c : Code) (pre : Path) (W : World) : Prop where
  c : c = .ret
  no : nd pre = none
  res : W.heap[w.heap.size + 2]? = some (.cells #[.pointer none] 57)
  but : But [] w W
theorem RcI.abides (w : World) (nd xs : Path → Option Nat) : Abides (w.heap.size + 3) (RcI w nd xs) := Abides.of_but fun pre V W L h hb hL => by
  obtain ⟨b, h1, h2⟩ := h.here
  exact ⟨⟨b, h1, heap_far h2 hb hL⟩, heap_far h.grow hb hL, heap_far h.res hb hL, h.but.trans hb (fun x hx => .inr (by have := (hL x hx).1; omega))⟩
theorem RcX.abides (w : World) (nd : Path → Option Nat) (c : Code) : Abides (w.heap.size + 3) (RcX w nd c) := Abides.of_but fun pre V W L h hb hL =>
  ⟨h.c, h.no, heap_far h.res hb hL, h.but.trans hb (fun x hx => .inr (by have := (hL x hx).1; omega))⟩
theorem RcI.more {w W : World} {nd xs : Path → Option Nat} {pre : Path} {a : Nat} {x : Int} (h : RcI w nd xs pre W) (ha : nd (pre ++ [x]) = some a) :
    KeepsOthers W (W.setCell ⟨w.heap.size, 0, none⟩ (pv (some a))) ∧ (∀ ok : Nat → Prop, ¬ ok w.heap.size → KeepIn ok W (W.setCell ⟨w.heap.size, 0, none⟩ (pv (some a)))) ∧ RcI w nd xs (pre ++ [x]) (W.setCell ⟨w.heap.size, 0, none⟩ (pv (some a))) := by
  have hs : But [w.heap.size] W (W.setCell ⟨w.heap.size, 0, none⟩ (pv (some a))) := (But.refl _ _).setCell (.inl (by simp)) _
  obtain ⟨b, h1, h2⟩ := h.here
  refine ⟨keepsOthers_of_but hs (fun y hy => ?_), fun ok hok => KeepIn.of_but hs (fun y hy => by simp at hy; subst hy; exact hok), ⟨a, ha, ?_⟩, hs.heap h.grow (by simp), hs.heap h.res (by simp), h.but.trans hs (fun y hy => .inr (by simp at hy; omega))⟩
  · simp only [List.mem_singleton] at hy
    subst hy
    exact ⟨_, _, _, h2⟩
  · simp [World.setCell, Array.getElem?_modify, h2]
theorem RcI.stop {w W : World} {nd xs : Path → Option Nat} {pre : Path} {x : Int} (h : RcI w nd xs pre W) (hn : nd (pre ++ [x]) = none) :
    KeepsOthers W (W.setCell ⟨w.heap.size + 2, 0, none⟩ (.pointer none)) ∧ RcX w nd .ret (pre ++ [x]) (W.setCell ⟨w.heap.size + 2, 0, none⟩ (.pointer none)) := by
  have hs : But [w.heap.size + 2] W (W.setCell ⟨w.heap.size + 2, 0, none⟩ (.pointer none)) := (But.refl _ _).setCell (.inl (by simp)) _
  refine ⟨keepsOthers_of_but hs (fun y hy => ?_), rfl, hn, ?_, h.but.trans hs (fun y hy => .inr (by simp at hy; omega))⟩
  · simp only [List.mem_singleton] at hy
    subst hy
    exact ⟨_, _, _, h.res⟩
  · simp [World.setCell, Array.getElem?_modify, h.res]
set_option maxRecDepth 100000 in
set_option maxHeartbeats 4000000 in
theorem reach_no (P : Nat) (ad : Addr) (cp : Nat) (ks : List Int) (w : World) (nd xs : Path → Option Nat) (b0 : Nat) (hT : Tree w nd xs) (h0 : nd [] = some b0)
    (hP : w.heap[P]? = some (.cells #[.slice (some ad) ks.length cp] 26)) (hs : Sees w (.slice (some ad) ks.length cp) (u8s ks)) (hk : KeyOk ks) :
    CallsIn Fence.wide 5 Try.prog 35 #[pv (some b0), .func (.func 54) #[] #[.pointer (some ⟨P, 0, none⟩)], .bool false] w fun e w' => e = .returned (pv (nd (kbits ks))) ∧ But [] w w' := by
  have h1 : 1 ≤ 5 := by decide
  obtain ⟨w1, hw1⟩ : ∃ w1, w1 = ((w.alloc (.cells #[pv (some b0)] 57)).alloc (.cells #[.bool false] 4)).alloc (.cells #[.pointer none] 57) := ⟨_, rfl⟩
  have hb1 : But [] w w1 := by rw [hw1]; exact (((But.refl [] w).alloc _).alloc _).alloc _
  have hz1 : w1.heap.size = w.heap.size + 3 := by rw [hw1, size_alloc, size_alloc, size_alloc]
  have g0 : w1.heap[w.heap.size]? = some (.cells #[pv (some b0)] 57) := by rw [hw1]; exact al_keep (al_keep (al_at w _) _) _
  have g1 : w1.heap[w.heap.size + 1]? = some (.cells #[.bool false] 4) := by rw [hw1]; exact al_keep (al_eq _ _ _ (by rw [size_alloc])) _
  have g2 : w1.heap[w.heap.size + 2]? = some (.cells #[.pointer none] 57) := by rw [hw1]; exact al_eq _ _ _ (by rw [size_alloc, size_alloc])
  have hPl := lt_of hP
  have hadl := hs.low (by rw [u8s_len]; have := hk.four; omega) ad.block rfl
  have HW := Lib.hid hw1
  have HS := Lib.hid (bits_seq 4 (by omega) P (fun b => b = P ∨ b = ad.block) ad cp ks w1 (hb1.heap hP (by simp)) (hs.but hb1 (by simp)) hk (.inl rfl) (.inr rfl))
  have HI0 : Hid (RcI w nd xs [] w1) := Lib.hid ⟨⟨b0, h0, g0⟩, g1, g2, hb1⟩
  have HZ := Lib.hid hz1
  have HT := Lib.hid hT
  clear hw1 hb1 g0 g1 g2 hs hk hz1 hT hP
  unfold pv
  refine callsIn_of_wp_marks Try.func35 rfl trivial ?_ rfl
  simp only [Try.ntmps35, List.size_toArray, List.length_cons, List.length_nil, Nat.reduceAdd, Nat.reduceSub, Array.replicate_succ, Array.replicate_zero, List.push_toArray, List.append_toArray, List.nil_append, List.cons_append]
  gi_wp2
  have hw1 := HW.out
  unfold pv at hw1
  simp only [Option.map_some] at hw1
  rw [← hw1]
  clear hw1
  refine wpIn_rangeFunc_but rfl h1 (gf := 54) (lb := #[.pointer (some ⟨P, 0, none⟩)]) rfl trivial (enters_of Try.func54 (by kernel_rfl) rfl) HS.out
    (fun h k => h.trans k) (fun hz hb => KeepIn.of_but hb (by simp)) (fun V l o o' hl hV ho => KeepIn.of_but (but_putObj o' hV) (by have := HZ.out; simp only [List.mem_singleton]; rintro x rfl h; omega)) (any01_abides _) (But.refl _ _) (fun _ => rfl)
    (RcI w nd xs) (RcX w nd) (HZ.out ▸ RcI.abides w nd xs) (fun c => HZ.out ▸ RcX.abides w nd c) HI0.out
    (fun x a' _ => a' = { tmps := #[.pointer (some ⟨b0, 0, none⟩), .func (.func 54) #[] #[.pointer (some ⟨P, 0, none⟩)], .bool false, .pointer (some ⟨w.heap.size, 0, none⟩), undef, .pointer (some ⟨w.heap.size + 1, 0, none⟩), .pointer (some ⟨w.heap.size + 2, 0, none⟩), .int .i64 x, .func (.func 54) #[] #[.pointer (some ⟨P, 0, none⟩)], .int .i64 x, undef, undef, undef, undef, undef, undef, undef, undef, undef, undef, undef, undef, undef, undef, undef, undef, undef, undef, undef, undef, undef, undef, undef], defers := [] })
    (fun a' => ⟨fun _ _ _ h _ => h, fun _ _ _ _ _ h _ _ _ => h⟩) ?assign ?body ?done ?stop ?throw
  case assign =>
    intro l pre x W K _ _ _ hK
    simp only [encI]
    gi_wp2
    exact hK _ _ (But.refl _ _) rfl
  case body =>
    rintro l pre x a' W hx0 hI hx _ hlt
    subst hx0
    obtain ⟨b, hb, hbox⟩ := hI.here
    have hc : W.cell? ⟨w.heap.size, 0, none⟩ = some (pv (some b)) := cl_of hbox 0
    have hf : W.frozen? ⟨w.heap.size, 0, none⟩ = false := fz_of hbox 0
    have hg : W.cell? ⟨w.heap.size + 1, 0, none⟩ = some (.bool false) := cl_of hI.grow 0
    have hr : W.cell? ⟨w.heap.size + 2, 0, none⟩ = some (.pointer none) := cl_of hI.res 0
    have hrf : W.frozen? ⟨w.heap.size + 2, 0, none⟩ = false := fz_of hI.res 0
    have hn := hI.but.heap (HT.out.cell pre b hb) (by simp)
    have n0 : W.cell? ⟨b, 0, none⟩ = some (pv (nd (pre ++ [0]))) := cl_of hn 0
    have n1 : W.cell? ⟨b, 1, none⟩ = some (pv (nd (pre ++ [1]))) := cl_of hn 1
    have HI := Lib.hid hI
    clear hI hbox hn
    rcases hx with rfl | rfl
    · cases hq : nd (pre ++ [0]) with
      | none =>
        have HRES := Lib.hid (HI.out.stop hq)
        rw [hq] at n0
        unfold pv at hc n0 n1
        simp only [Option.map_some, Option.map_none] at hc n0 n1
        clear hq n1
        gi_wp2
        exact HRES.out
      | some a =>
        have HRES := Lib.hid (HI.out.more hq)
        rw [hq] at n0
        unfold pv at hc n0 n1
        simp only [Option.map_some, Option.map_none] at hc n0 n1
        clear hq n1
        gi_wp2
        exact ⟨HRES.out.1, HRES.out.2.1 _ (fun h => by omega), HRES.out.2.2⟩
    · cases hq : nd (pre ++ [1]) with
      | none =>
        have HRES := Lib.hid (HI.out.stop hq)
        rw [hq] at n1
        unfold pv at hc n0 n1
        simp only [Option.map_some, Option.map_none] at hc n0 n1
        clear hq n0
        gi_wp2
        exact HRES.out
      | some a =>
        have HRES := Lib.hid (HI.out.more hq)
        rw [hq] at n1
        unfold pv at hc n0 n1
        simp only [Option.map_some, Option.map_none] at hc n0 n1
        clear hq n0
        gi_wp2
        exact ⟨HRES.out.1, HRES.out.2.1 _ (fun h => by omega), HRES.out.2.2⟩
  case done =>
    rintro D ys W rfl rfl hI hK
    obtain ⟨b, hb, hbox⟩ := hI.here
    have hc : W.cell? ⟨w.heap.size, 0, none⟩ = some (.pointer (some ⟨b, 0, none⟩)) := cl_of hbox 0
    have hr : W.cell? ⟨w.heap.size + 2, 0, none⟩ = some (.pointer none) := cl_of hI.res 0
    have hrf : W.frozen? ⟨w.heap.size + 2, 0, none⟩ = false := fz_of hI.res 0
    have hs : But [w.heap.size + 2] W (W.setCell ⟨w.heap.size + 2, 0, none⟩ (.pointer (some ⟨b, 0, none⟩))) := (But.refl _ _).setCell (.inl (by simp)) _
    have hK' : (W.setCell ⟨w.heap.size + 2, 0, none⟩ (.pointer (some ⟨b, 0, none⟩))).heap[w1.heap.size]? = some (.deferred (some [])) := hs.heap hK (by have := HZ.out; simp; omega)
    have hb2 : But [w1.heap.size] _ ((W.setCell ⟨w.heap.size + 2, 0, none⟩ (.pointer (some ⟨b, 0, none⟩))).putObj w1.heap.size (.deferred none)) := but_putObj _ hK'
    have HEND := Lib.hid (show But [] w _ from (hI.but.trans hs (fun x hx => .inr (by simp at hx; omega))).trans hb2 (fun x hx => .inr (by have := HZ.out; simp at hx; omega)))
    have hcr : ((W.setCell ⟨w.heap.size + 2, 0, none⟩ (.pointer (some ⟨b, 0, none⟩))).putObj w1.heap.size (.deferred none)).cell? ⟨w.heap.size + 2, 0, none⟩ = some (.pointer (some ⟨b, 0, none⟩)) := by
      refine cell_but hb2 (p := ⟨w.heap.size + 2, 0, none⟩) ?_ (by have := HZ.out; simp; omega)
      refine cl_of (cs := #[.pointer (some ⟨b, 0, none⟩)]) (t := 57) ?_ 0
      simp [World.setCell, Array.getElem?_modify, hI.res]
    have HCR := Lib.hid hcr
    have HKK := Lib.hid hK'
    have HB := Lib.hid hb
    clear hI hbox hs hK' hb2 hcr hb
    gi_wp2
    refine ⟨by simp, .inl ⟨_, _, rfl, run_takeDeferred HKK.out, ?_⟩⟩
    have hcr := HCR.out
    refine ⟨.pointer (some ⟨b, 0, none⟩), by simp [results, Try.results35, go_sem, hcr], by rw [HB.out]; rfl, HEND.out⟩
  case stop =>
    rintro D c pre W rfl hpre hX hK
    obtain rfl := hX.c
    have hb2 : But [w1.heap.size] W (W.putObj w1.heap.size (.deferred none)) := but_putObj _ hK
    have HEND := Lib.hid (show But [] w (W.putObj w1.heap.size (.deferred none)) from hX.but.trans hb2 (fun x hx => .inr (by have := HZ.out; simp at hx; omega)))
    have hcr : (W.putObj w1.heap.size (.deferred none)).cell? ⟨w.heap.size + 2, 0, none⟩ = some (.pointer none) := cell_but hb2 (p := ⟨w.heap.size + 2, 0, none⟩) (cl_of hX.res 0) (by have := HZ.out; simp; omega)
    have HCR := Lib.hid hcr
    have HN := Lib.hid (HT.out.none_down hX.no hpre)
    clear hX hb2 hcr
    gi_wp2
    refine ⟨by simp, .inl ⟨_, _, rfl, run_takeDeferred hK, ?_⟩⟩
    have hcr := HCR.out
    refine ⟨.pointer none, by simp [results, Try.results35, go_sem, hcr], by rw [HN.out]; rfl, HEND.out⟩
  case throw =>
    rintro D pre chain W _ h _ _
    exact h.elim
end Go.Proofs.Ytpoinhfkgnkedaa.M
