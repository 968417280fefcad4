/-
  trie.many again, with a But that tells too that the draws go on (printed by mkdrawn.py).
-/
import Derived.WalkLawsBesides
import Derived.WalkSpells
import Derived.Handy
import Derived.Lib.Hide
import Derived.Maps.OwnSet
import Derived.Maps.AppendAt
import Derived.Laws.OwnMore
import Derived.Laws.MakeOwn
import Derived.Laws.CopyOwn
import Derived.RangeFuncNested
import Derived.RangeFuncBound
import Derived.RangeFuncCalls
import Derived.RangeFuncLeaves
import Derived.RangeFuncBox
import Derived.Shelf.Abstract
import Derived.Shelf.RegionOpen
import Derived.WalkKit
import Derived.OwnWalkIn
import Derived.TacticsInMore
import Derived.LoopNIn
import Derived.LoopIn
import Derived.Test.YtpoinhfkgnkedaaProg
namespace Go.Proofs.Ytpoinhfkgnkedaa.D
open Go.RowKit Go.Shelf
set_option linter.unusedVariables false
set_option linter.unusedSectionVars false
set_option linter.unusedSimpArgs false
/-- All old blocks but those of L are as they were. -/
structure But (L : List Nat) (w w' : World) : Prop where
  os : w'.os = w.os
  drawn : w.drawn ≤ w'.drawn
  tape : w'.tape = w.tape
  output : w'.output = w.output
  size : w.heap.size ≤ w'.heap.size
  block : ∀ k, k < w.heap.size → k ∉ L → w'.heap[k]? = w.heap[k]?
theorem But.refl (L : List Nat) (w : World) : But L w w := ⟨rfl, Nat.le_refl _, rfl, rfl, Nat.le_refl _, fun _ _ _ => rfl⟩
theorem But.trans {L M : List Nat} {a b c : World} (h : But L a b) (k : But M b c) (hM : ∀ x ∈ M, x ∈ L ∨ a.heap.size ≤ x) : But L a c :=
  ⟨k.os.trans h.os, Nat.le_trans h.drawn k.drawn, k.tape.trans h.tape, k.output.trans h.output, Nat.le_trans h.size k.size, fun i hi hn =>
    (k.block i (Nat.lt_of_lt_of_le hi h.size) (fun hm => (hM i hm).elim hn (fun hle => by omega))).trans (h.block i hi hn)⟩
theorem But.mono {L M : List Nat} {a b : World} (h : But L a b) (hM : ∀ x ∈ L, x ∈ M) : But M a b :=
  ⟨h.os, h.drawn, h.tape, h.output, h.size, fun i hi hn => h.block i hi (fun hm => hn (hM i hm))⟩
theorem But.new {L : List Nat} {a b : World} (h : But L a b) (hL : ∀ x ∈ L, a.heap.size ≤ x) : But [] a b :=
  ⟨h.os, h.drawn, h.tape, h.output, h.size, fun i hi hn => h.block i hi (fun hm => by have := hL i hm; omega)⟩
theorem But.drew {L : List Nat} {a b : World} (h : But L a b) : But L a b.drew := ⟨h.os, Nat.le_succ_of_le h.drawn, h.tape, h.output, h.size, h.block⟩
theorem But.alloc {L : List Nat} {a b : World} (h : But L a b) (o : Obj) : But L a (b.alloc o) :=
  ⟨h.os, h.drawn, h.tape, h.output, Nat.le_trans h.size (show b.heap.size ≤ (b.heap.push o).size by simp), fun i hi hn => (Below.heap_alloc b o i (Nat.lt_of_lt_of_le hi h.size)).trans (h.block i hi hn)⟩
theorem But.setCell {L : List Nat} {a b : World} (h : But L a b) {p : Addr} (hp : p.block ∈ L ∨ a.heap.size ≤ p.block) (u : Value) : But L a (b.setCell p u) :=
  ⟨h.os, h.drawn, h.tape, h.output, Nat.le_trans h.size (by simp [World.setCell]), fun i hi hn => (Below.heap_setCell b p u i (fun he => by rcases hp with h1 | h1; exact hn (he ▸ h1); omega)).trans (h.block i hi hn)⟩
theorem But.heap {L : List Nat} {a b : World} (h : But L a b) {k : Nat} {o : Obj} (hk : a.heap[k]? = some o) (hn : k ∉ L) : b.heap[k]? = some o := by
  have hlt : k < a.heap.size := (Array.getElem?_eq_some_iff.1 hk).1
  rw [h.block k hlt hn, hk]
theorem lt_of {a : World} {k : Nat} {o : Obj} (hk : a.heap[k]? = some o) : k < a.heap.size := (Array.getElem?_eq_some_iff.1 hk).1

theorem add_at (g o j : Nat) : (⟨g, o, none⟩ : Addr).add j = ⟨g, o + j, none⟩ := by
  by_cases h0 : j = 0
  · subst h0; simp [Addr.add]
  · simp [Addr.add, h0]
theorem cell_but {L : List Nat} {a b : World} (h : But L a b) {p : Addr} {u : Value} (hc : a.cell? p = some u) (hn : p.block ∉ L) : b.cell? p = some u := by
  have hlt : p.block < a.heap.size := by
    apply Classical.byContradiction
    intro hn
    have : a.heap[p.block]? = none := Array.getElem?_eq_none (by omega)
    simp [World.cell?, this] at hc
  rw [World.cell?_of_block (w := a) (h.block _ hlt hn)]
  exact hc
theorem size_alloc (w : World) (o : Obj) : (w.alloc o).heap.size = w.heap.size + 1 := Array.size_push ..
/-- What a slice shows. -/
def Sees (w : World) (s : Value) (xs : List Value) : Prop :=
  (s = .slice none 0 0 ∧ xs = []) ∨ ∃ ad c, s = .slice (some ad) xs.length c ∧ xs.length ≤ c ∧ ∀ j u, xs[j]? = some u → w.cell? (ad.add j) = some u
theorem block_of_add (a : Addr) (n : Nat) : (a.add n).block = a.block := by unfold Addr.add; split <;> rfl
theorem cell_lt {w : World} {a : Addr} {u : Value} (h : w.cell? a = some u) : a.block < w.heap.size := by
  apply Classical.byContradiction
  intro hn
  have : w.heap[a.block]? = none := Array.getElem?_eq_none (by omega)
  simp [World.cell?, this] at h
theorem Sees.but {L : List Nat} {w w' : World} {s : Value} {xs : List Value} (h : Sees w s xs) (hb : But L w w') (hn : ∀ k, s.ownBlock = some k → k ∉ L) : Sees w' s xs := by
  rcases h with h | ⟨ad, c, rfl, hc, hx⟩
  · exact .inl h
  · refine .inr ⟨ad, c, rfl, hc, fun j u hj => ?_⟩
    have h1 := hx j u hj
    rw [World.cell?_of_block (w := w) (hb.block _ (cell_lt h1) (by rw [block_of_add]; exact hn _ rfl))]
    exact h1
theorem al_at (w : World) (o : Obj) : (w.alloc o).heap[w.heap.size]? = some o := Array.getElem?_push_size
theorem al_eq (w : World) (o : Obj) (q : Nat) (h : w.heap.size = q) : (w.alloc o).heap[q]? = some o := by
  subst h; exact al_at w o
theorem al_keep {w : World} {k : Nat} {o : Obj} (h : w.heap[k]? = some o) (o' : Obj) : (w.alloc o').heap[k]? = some o := by
  rw [Below.heap_alloc w o' k (lt_of h)]; exact h
theorem cl_of {w : World} {k : Nat} {cs : Array Value} {t : TypeId} (h : w.heap[k]? = some (.cells cs t)) (j : Nat) : w.cell? ⟨k, j, none⟩ = cs[j]? := by
  unfold World.cell?; rw [h]; rfl
attribute [local go_sem] Oper.semAt_some
/-- What stands when new blocks are laid, and when a block from B on that holds no cells turns. -/
structure Abides {β : Type} (B : Nat) (I : β → World → Prop) : Prop where
  new : ∀ s V W, I s V → But [] V W → I s W
  put : ∀ s V r o o', I s V → B ≤ r → V.heap[r]? = some o → o.isCells = false → I s (V.putObj r o')
theorem Abides.mono {β : Type} {B C : Nat} {I : β → World → Prop} (h : Abides B I) (hBC : B ≤ C) : Abides C I := ⟨h.new, fun s V r o o' hs hr => h.put s V r o o' hs (Nat.le_trans hBC hr)⟩
theorem Abides.and {β : Type} {B : Nat} {I K : β → World → Prop} (h : Abides B I) (k : Abides B K) : Abides B (fun s W => I s W ∧ K s W) :=
  ⟨fun s V W hs hb => ⟨h.new s V W hs.1 hb, k.new s V W hs.2 hb⟩, fun s V r o o' hs hr ho hc => ⟨h.put s V r o o' hs.1 hr ho hc, k.put s V r o o' hs.2 hr ho hc⟩⟩
theorem Abides.none {β : Type} (B : Nat) : Abides B (fun (_ : β) (_ : World) => False) := ⟨fun _ _ _ h _ => h, fun _ _ _ _ _ h _ _ _ => h⟩
theorem but_putObj {V : World} {r : Nat} {o : Obj} (o' : Obj) (h : V.heap[r]? = some o) : But [r] V (V.putObj r o') :=
  ⟨rfl, Nat.le_refl _, rfl, rfl, by simp [World.putObj], fun k hk hn => World.putObj_heap_other (by simpa using hn)⟩
/-- Facts that stand behind any turn of blocks that are not theirs: they abide. -/
theorem Abides.of_but {β : Type} {B : Nat} {I : β → World → Prop} (h : ∀ s V W L, I s V → But L V W → (∀ x ∈ L, B ≤ x ∧ ∃ o, V.heap[x]? = some o ∧ o.isCells = false) → I s W) : Abides B I :=
  ⟨fun s V W hs hb => h s V W [] hs hb (by simp), fun s V r o o' hs hr ho hc => h s V _ [r] hs (but_putObj o' ho) (by simp only [List.mem_singleton]; rintro x rfl; exact ⟨hr, o, ho, hc⟩)⟩
theorem keepsOthers_of_but {L : List Nat} {V W : World} (h : But L V W) (hL : ∀ x ∈ L, ∃ cs t f, V.heap[x]? = some (.cells cs t f)) : KeepsOthers V W :=
  ⟨h.size, fun k o hk ho => h.heap hk (fun hm => by
    obtain ⟨cs, t, f, hc⟩ := hL k hm
    rw [hk] at hc
    cases hc
    cases ho)⟩
def SeqPost {α : Type} (S Sp : List α → Prop) (Tp : List α → List PanicEntry → Prop) (J Jx : List α → World → Prop) (e : Ending) (W' : World) : Prop :=
  ((∃ v, e = .returned v) ∧ ((∃ xs, S xs ∧ J xs W') ∨ ∃ pre, Sp pre ∧ Jx pre W')) ∨ ∃ pre chain, Tp pre chain ∧ e = .panicked chain ∧ J pre W'
/-- An iterator's contract. -/
def SeqB {α : Type} (F : Fence) (n : Nat) (P : Program) (g : Nat) (lb : Array Value) (encs : α → Array Value) (A : α → World → Prop) (Kp : World → World → Prop) (S Sp : List α → Prop) (Tp : List α → List PanicEntry → Prop) (N : Nat) (w : World) : Prop :=
  ∀ (l : Nat) (J Jx : List α → World → Prop) (W : World), But [] w W → Abides W.heap.size J → Abides W.heap.size Jx →
    (∀ pre x W1, J pre W1 → A x W1 → pre.length < N → YieldAt F (n - 1) P l (encs x) W1 fun e W' =>
      (e = .returned (.bool true) ∧ J (pre ++ [x]) W' ∧ Kp W1 W') ∨ (e = .returned (.bool false) ∧ Jx (pre ++ [x]) W')) →
    J [] W →
    CallsIn F n P g (#[.func (.yield l) #[] #[]] ++ lb) W (SeqPost S Sp Tp J Jx)
section
variable {F : Fence} {n : Nat} {P : Program}
/-- The law of the statement 'for .. := range f'. -/
theorem wpIn_rangeFunc_but {α : Type} {g : Operand} {ps : Array Tmp} {assign body : Code} {Q : Exit → Act → World → Prop} {a : Act} {w : World}
    (hro : F.round = none) (h1 : 1 ≤ n) {gf : Nat} {lb : Array Value} (hg : a.eval g = .func (.func gf) #[] lb) (hFg : F.fn gf) (eg : ∀ args w, (callFunc gf args).run P w = .ok (.enter gf args) w)
    {encs : α → Array Value} {A : α → World → Prop} {Kp : World → World → Prop} {S Sp : List α → Prop} {Tp : List α → List PanicEntry → Prop} {N : Nat} {w0 : World} (hseq : SeqB F (n - 1) P gf lb encs A Kp S Sp Tp N w0)
    (hKt : ∀ {V X Y : World}, Kp V X → Kp X Y → Kp V Y) (hKn : ∀ {V X : World}, w.heap.size ≤ V.heap.size → But [] V X → Kp V X) (hKb : ∀ (V : World) (l : Nat) (o o' : Obj), w.heap.size ≤ l → V.heap[l]? = some o → o.isCells = false → Kp V (V.putObj l o'))
    (hA : Abides w.heap.size A) (hb0 : But [] w0 w) (hps : ∀ x, (encs x).size = ps.size)
    (I : List α → World → Prop) (Ix : Code → List α → World → Prop) (hI : Abides w.heap.size I) (hIx : ∀ c, Abides w.heap.size (Ix c)) (h0 : I [] w)
    (Ax : α → Act → World → Prop) (hAx : ∀ a', Abides w.heap.size (fun x W => Ax x a' W))
    (hassign : ∀ (l : Nat) (pre : List α) (x : α) (W : World) (K : Act → World → Prop), I pre W → A x W → w.heap.size < W.heap.size → (∀ a' W', But [] W W' → Ax x a' W' → K a' W') →
      assign.wpIn (F.inRound l) (n - 1 - 1) P (Exit.then K (fun _ _ _ => False)) { tmps := (ps.zip (encs x)).foldl (fun t (p, v) => t.setIfInBounds p v) a.tmps, defers := [] } W)
    (hbody : ∀ (l : Nat) (pre : List α) (x : α) (a' : Act) (W : World), Ax x a' W → I pre W → A x W → w.heap.size < W.heap.size → pre.length < N → body.wpIn (F.inRound l) (n - 1 - 1) P (ownPostK Kp I Ix (pre ++ [x]) W) a' W)
    (hdone : ∀ (D : Nat) (xs : List α) (W : World), D = w.heap.size → S xs → I xs W → W.heap[D]? = some (.deferred (some [])) → Q .normal { a with defers := { target := .collected D, args := #[] } :: a.defers } W)
    (hstop : ∀ (D : Nat) (c : Code) (pre : List α) (W : World), D = w.heap.size → Sp pre → Ix c pre W → W.heap[D]? = some (.deferred (some [])) → c.wpIn F n P Q { a with defers := { target := .collected D, args := #[] } :: a.defers } W)
    (hthrow : ∀ (D : Nat) (pre : List α) (chain : List PanicEntry) (W : World), D = w.heap.size → Tp pre chain → I pre W → W.heap[D]? = some (.deferred (some [])) → Q (.panic chain) { a with defers := { target := .collected D, args := #[] } :: a.defers } W) :
    (Code.rangeFunc g ps assign body).wpIn F n P Q a w := by
  refine wpIn_rangeFunc fun fn hfn => ?_
  rw [hro]
  let rec' : LoopState → Option Code → Loop := fun st pe => { state := st, pending := pe, fn, tmps := a.tmps, params := ps, assign, body, defers := w.heap.size }
  obtain ⟨rec, hrec⟩ : ∃ r, r = rec' := ⟨_, rfl⟩
  obtain ⟨W1, hW1⟩ : ∃ X, X = (w.alloc (.deferred (some []))).alloc (.loop (rec .ready none)) := ⟨_, rfl⟩
  have hbW : But [] w W1 := by rw [hW1]; exact ((But.refl [] w).alloc _).alloc _
  have hlast : ∀ (V : World) (o : Obj), (V.alloc o).heap[V.heap.size]? = some o := fun V o => World.alloc_heap_new V o
  have hL1 : W1.heap[w.heap.size + 1]? = some (.loop (rec .ready none)) := by
    have h := hlast (w.alloc (.deferred (some []))) (.loop (rec .ready none))
    rw [size_alloc] at h
    rw [hW1]; exact h
  have hK1 : W1.heap[w.heap.size]? = some (.deferred (some [])) := by
    rw [hW1]; exact ((But.refl [] (w.alloc (.deferred (some [])))).alloc _).heap (hlast w _) (by simp)
  have hz1 : W1.heap.size = w.heap.size + 2 := by rw [hW1, size_alloc, size_alloc]
  refine ⟨w.heap.size + 1, [{ target := .collected w.heap.size, args := #[] }], W1, { target := .fn (.func gf) lb, args := #[.func (.yield (w.heap.size + 1)) #[] #[]] }, W1, gf, #[.func (.yield (w.heap.size + 1)) #[] #[]] ++ lb, W1, ?_, ?_, ?_, ?_, fun _ => h1, ?_⟩
  · rw [hW1, hrec]; exact run_enterLoop_outer _ _ _ _ _
  · simp only [resolve, hg]
    simp [go_sem]
  · intro f' hf'
    simp [Target.leads] at hf'
    subst hf'; exact hFg
  · simp [invoke, go_sem, eg]
  -- the two facts of the statement's own, beside the caller's
  let Bk : Loop → World → Prop := fun r W => W.heap[w.heap.size + 1]? = some (.loop r) ∧ W.heap[w.heap.size]? = some (.deferred (some []))
  have hBk : ∀ r, Abides (β := Unit) W1.heap.size (fun _ W => Bk r W) := fun r => Abides.of_but fun _ V X L hs hb hL =>
    ⟨hb.heap hs.1 (fun hm => by have := (hL _ hm).1; omega), hb.heap hs.2 (fun hm => by have := (hL _ hm).1; omega)⟩
  have hI' := hI.mono (show w.heap.size ≤ W1.heap.size by omega)
  have hIx' := fun c => (hIx c).mono (show w.heap.size ≤ W1.heap.size by omega)
  refine (hseq (w.heap.size + 1) (fun pre W => I pre W ∧ Bk (rec .ready none) W) (fun pre W => ∃ c, Ix c pre W ∧ Bk (rec .done (some c)) W) W1 (hb0.trans hbW (by simp))
    ⟨fun s V X hs hb => ⟨hI'.new s V X hs.1 hb, (hBk _).new () V X hs.2 hb⟩, fun s V r o o' hs hr ho hc => ⟨hI'.put s V r o o' hs.1 hr ho hc, (hBk _).put () V r o o' hs.2 hr ho hc⟩⟩
    ⟨fun s V X ⟨c, hs⟩ hb => ⟨c, (hIx' c).new s V X hs.1 hb, (hBk _).new () V X hs.2 hb⟩, fun s V r o o' ⟨c, hs⟩ hr ho hc => ⟨c, (hIx' c).put s V r o o' hs.1 hr ho hc, (hBk _).put () V r o o' hs.2 hr ho hc⟩⟩
    ?_ ⟨hI.new _ _ _ h0 hbW, hL1, hK1⟩).mono ?_
  · -- one round
    rintro pre x W ⟨hi, hl, hk⟩ hax hlen
    have hlt : w.heap.size + 1 < W.heap.size := lt_of hl
    have hy := run_yield (P := P) (args := encs x) hl (by rw [hrec]; exact hps x)
    rw [hrec] at hy
    refine ⟨fn, _, assign, body, hy, roundIn_of_wpIn hfn (hassign _ pre x W _ hi hax (by omega) fun a' X hbX haX => ?_)⟩
    have hiX := hI.new _ _ _ hi hbX
    have haxX := hA.new _ _ _ hax hbX
    have hlX := hbX.heap hl (by simp)
    have hkX := hbX.heap hk (by simp)
    have hltX := lt_of hlX
    refine ⟨_, run_beginRound hlX (by rw [hrec]), ?_⟩
    obtain ⟨Y, hY⟩ : ∃ Y, Y = X.putObj (w.heap.size + 1) (.loop { rec .ready none with state := .busy }) := ⟨_, rfl⟩
    rw [← hY]
    have hlY : Y.heap[w.heap.size + 1]? = some (.loop { rec .ready none with state := .busy }) := by rw [hY]; exact World.putObj_heap_same hltX
    have hkY : Y.heap[w.heap.size]? = some (.deferred (some [])) := by rw [hY]; exact (World.putObj_heap_other (by omega)).trans hkX
    have hiY : I pre Y := by rw [hY]; exact hI.put _ _ _ _ _ hiX (by omega) hlX rfl
    have haY : A x Y := by rw [hY]; exact hA.put _ _ _ _ _ haxX (by omega) hlX rfl
    have haxY : Ax x a' Y := by rw [hY]; exact (hAx a').put _ _ _ _ _ haX (by omega) hlX rfl
    have hzY : w.heap.size < Y.heap.size := by have := lt_of hlY; omega
    have hkpY : Kp W Y := by rw [hY]; exact hKt (hKn (by omega) hbX) (hKb _ _ _ _ (by omega) hlX rfl)
    refine wpIn_mono (hbody _ pre x a' Y haxY hiY haY hzY hlen) ?_
    have fin : ∀ (jump : Option Code) (Z : World), KeepsOthers Y Z → ∃ Z', Z' = Z.putObj (w.heap.size + 1) (.loop (rec (if jump.isNone then .ready else .done) jump)) ∧ (Instr.endRound (w.heap.size + 1) jump).run P Z = .ok (.bool jump.isNone) Z' ∧ Z.heap[w.heap.size + 1]? = some (.loop { rec .ready none with state := .busy }) ∧ Bk (rec (if jump.isNone then .ready else .done) jump) Z' := fun jump Z hko => by
      have hlZ := hko.same _ _ hlY rfl
      have hr := run_endRound (P := P) jump hlZ
      refine ⟨_, rfl, ?_, hlZ, World.putObj_heap_same (lt_of hlZ), (World.putObj_heap_other (by omega)).trans (hko.same _ _ hkY rfl)⟩
      rw [hr, hrec]
    have leave : ∀ (c : Code) (Z : World), KeepsOthers Y Z ∧ Ix c (pre ++ [x]) Z → ∃ v Z', (Instr.endRound (w.heap.size + 1) (some c)).run P Z = .ok v Z' ∧ ((Ending.returned v = .returned (.bool true) ∧ (I (pre ++ [x]) Z' ∧ Bk (rec .ready none) Z') ∧ Kp W Z') ∨ (Ending.returned v = .returned (.bool false) ∧ ∃ c, Ix c (pre ++ [x]) Z' ∧ Bk (rec .done (some c)) Z')) := fun c Z ⟨hko, hix⟩ => by
      obtain ⟨Z', hZ', hr, hlZ, hbk⟩ := fin (some c) Z hko
      exact ⟨_, Z', hr, .inr ⟨rfl, c, by rw [hZ']; exact (hIx c).put _ _ _ _ _ hix (by omega) hlZ rfl, hbk⟩⟩
    rintro e a3 Z hp
    cases e with
    | normal =>
      obtain ⟨hko, hkp, hi3⟩ := hp
      obtain ⟨Z', hZ', hr, hlZ, hbk⟩ := fin none Z hko
      exact ⟨_, Z', hr, .inl ⟨rfl, ⟨by rw [hZ']; exact hI.put _ _ _ _ _ hi3 (by omega) hlZ rfl, hbk⟩, by rw [hZ']; exact hKt (hKt hkpY hkp) (hKb _ _ _ _ (by omega) hlZ rfl)⟩⟩
    | ret => exact leave .ret Z hp
    | exit id => exact leave (.exit id) Z hp
    | goto t => exact leave (.goto t) Z hp
    | panic ch => exact hp.elim
    | outgrown => exact hp.elim
  · -- behind the iterator
    rintro e Z (⟨⟨v, rfl⟩, ⟨xs, hS, hi, hl, hk⟩ | ⟨pre, hSp, c, hi, hl, hk⟩⟩ | ⟨pre, chain, hT, rfl, hi, hl, hk⟩)
    · have hr := run_endLoop (P := P) hl (by rw [hrec]; simp [rec'])
      rw [hrec] at hr
      exact ⟨none, _, hr, hdone _ xs _ rfl hS (hI.put _ _ _ _ _ hi (by omega) hl rfl) ((World.putObj_heap_other (by omega)).trans hk)⟩
    · have hr := run_endLoop (P := P) hl (by rw [hrec]; simp [rec'])
      rw [hrec] at hr
      exact ⟨some c, _, hr, hstop _ c pre _ rfl hSp ((hIx c).put _ _ _ _ _ hi (by omega) hl rfl) ((World.putObj_heap_other (by omega)).trans hk)⟩
    · exact hthrow _ pre chain _ rfl hT hi hk
end
def u8s (l : List Int) : List Value := l.map (.int .u8)
theorem u8s_len (l : List Int) : (u8s l).length = l.length := by simp [u8s]
theorem u8s_at {l : List Int} {i : Nat} {x : Int} (h : l[i]? = some x) : (u8s l)[i]? = some (.int .u8 x) := by simp [u8s, h]
def ByteL (l : List Int) : Prop := ∀ x ∈ l, 0 ≤ x ∧ x ≤ 255
def NoT {α : Type} (pre : List α) (chain : List PanicEntry) : Prop := False
theorem back_c (a : Option Addr) (n c : Nat) (w : World) : Calls Try.prog 60 #[.slice a n c] w fun e w' => e = .returned (.func (.func 75) #[] #[.pointer (some ⟨w.heap.size, 0, none⟩)]) ∧ w' = w.alloc (.cells #[.slice a n c] 26) := by
  have hmf : ∀ (fn : Fn) (first cap : Array Value) (w : World), (Instr.makeFunc fn first cap).run Try.prog w = .ok (.func fn first cap) w := fun _ _ _ _ => rfl
  go_enter Try.func60, Try.ntmps60
  go_wp2_with fail
  go_ret
  exact ⟨rfl, rfl⟩
/-- The blocks that are meant stay as they are. -/
structure KeepIn (ok : Nat → Prop) (W W' : World) : Prop where
  size : W.heap.size ≤ W'.heap.size
  same : ∀ b, ok b → b < W.heap.size → W'.heap[b]? = W.heap[b]?
theorem KeepIn.refl (ok : Nat → Prop) (W : World) : KeepIn ok W W := ⟨Nat.le_refl _, fun _ _ _ => rfl⟩
theorem KeepIn.trans {ok : Nat → Prop} {U V W : World} (h : KeepIn ok U V) (k : KeepIn ok V W) : KeepIn ok U W := ⟨Nat.le_trans h.size k.size, fun b hb hl => (k.same b hb (by have := h.size; omega)).trans (h.same b hb hl)⟩
theorem KeepIn.cell {ok : Nat → Prop} {V W : World} (h : KeepIn ok V W) {p : Addr} {v : Value} (hp : ok p.block) (hc : V.cell? p = some v) : W.cell? p = some v := by
  have h1 := h.same p.block hp (cell_lt hc)
  rw [← hc]
  unfold World.cell?
  rw [h1]
theorem KeepIn.of_but {ok : Nat → Prop} {V W : World} {L : List Nat} (h : But L V W) (hL : ∀ x ∈ L, ¬ ok x) : KeepIn ok V W := ⟨h.size, fun b hb hl => h.block b hl (fun hm => hL b hm hb)⟩
def encB (x : Int × Int) : Array Value := #[.int .i64 x.1, .int .u8 x.2]
def AnyA (x : Int × Int) (w : World) : Prop := 0 ≤ x.2 ∧ x.2 ≤ 255
def BAll (bs : List Int) (xs : List (Int × Int)) : Prop := xs.map Prod.snd = bs.reverse
def AfterB (ok : Nat → Prop) (J Jx : List (Int × Int) → World → Prop) (W : World) (pre : List (Int × Int)) (bo : Bool) (W' : World) : Prop := if bo = true then J pre W' ∧ KeepIn ok W W' else Jx pre W'
set_option maxRecDepth 100000 in
set_option maxHeartbeats 4000000 in
theorem back1_in (n : Nat) (hn : 1 ≤ n) (l P : Nat) (ok : Nat → Prop) (s : Value) (bs : List Int) (J Jx : List (Int × Int) → World → Prop) (W : World)
    (hY : ∀ pre x W1, J pre W1 → AnyA x W1 → pre.length < bs.length → YieldAt Fence.wide (n - 1) Try.prog l (encB x) W1 fun e W' =>
      (e = .returned (.bool true) ∧ J (pre ++ [x]) W' ∧ KeepIn ok W1 W') ∨ (e = .returned (.bool false) ∧ Jx (pre ++ [x]) W'))
    (hP : W.heap[P]? = some (.cells #[s] 26)) (hs : Sees W s (u8s bs)) (hr : ∀ x ∈ bs, 0 ≤ x ∧ x ≤ 255) (hl : bs.length ≤ 1000000000000) (hPn : ok P) (hsn : ∀ b, s.ownBlock = some b → ok b) (h0 : J [] W) :
    CallsIn Fence.wide n Try.prog 75 #[.func (.yield l) #[] #[], .pointer (some ⟨P, 0, none⟩)] W (SeqPost (BAll bs) (fun _ => True) NoT J Jx) := by
  obtain ⟨a, c, rfl, hsc⟩ : ∃ a c, s = .slice a bs.length c ∧ ∀ (i : Nat) (x : Int), bs[i]? = some x → ∃ ad, a = some ad ∧ W.cell? (ad.add i) = some (.int .u8 x) := by
    rcases hs with ⟨rfl, h⟩ | ⟨ad, c, rfl, _, h⟩
    · have h0 : bs = [] := by simpa [u8s] using h
      subst h0
      exact ⟨none, 0, rfl, fun i x hx => by simp at hx⟩
    · exact ⟨some ad, c, by rw [u8s_len], fun i x hx => ⟨ad, rfl, h i _ (u8s_at hx)⟩⟩
  have c0 : W.cell? ⟨P, 0, none⟩ = some (.slice a bs.length c) := cl_of hP 0
  have C0 := Lib.hid (fun wr (h : KeepIn ok W wr) => h.cell (p := ⟨P, 0, none⟩) hPn c0)
  have hl0 : (0 : Int) ≤ bs.length := by omega
  have HSC := Lib.hid hsc
  have HY := Lib.hid hY
  have HSN := Lib.hid hsn
  have HR0 := Lib.hid hr
  clear hr
  clear hP hsc hY hsn hPn
  refine callsIn_of_wp Try.func75 rfl trivial ?_ rfl
  simp only [Try.ntmps75, List.size_toArray, List.length_cons, List.length_nil, Nat.reduceAdd, Nat.reduceSub, Array.replicate_succ, Array.replicate_zero, List.push_toArray, List.append_toArray, List.nil_append, List.cons_append]
  have hw0 : wrap64 ((bs.length : Int) - 1) = bs.length - 1 := by rw [wrap64]; omega
  gi_wp2
  clear c0
  gi_loopw [3] (fun i wr => ∃ (j : Nat) (pre : List (Int × Int)), j ≤ bs.length ∧ i = .int .i64 ((j : Int) - 1) ∧ J pre wr ∧ pre.map Prod.snd = (bs.drop j).reverse ∧ KeepIn ok W wr) (fun i _ => (intOf i + 1).toNat)
  case atStart =>
    exact ⟨bs.length, [], Nat.le_refl _, rfl, h0, by simp, KeepIn.refl _ _⟩
  case round =>
    obtain ⟨j, pre, hj, rfl, hJ, hpre, hb⟩ := hrel
    have HJP := Lib.hid hJ
    have HPRE := Lib.hid hpre
    have HB := Lib.hid hb
    have c0 := C0.out wr hb
    clear hJ hpre hb h0
    cases j with
    | zero =>
      have HEND : Hid (SeqPost (BAll bs) (fun _ => True) NoT J Jx (.returned (.tuple #[])) wr) := Lib.hid (.inl ⟨⟨_, rfl⟩, .inl ⟨pre, by have h := HPRE.out; simpa [BAll] using h, HJP.out⟩⟩)
      gi_wp2
      refine bodyPost_ret (results_none rfl _ _ _) rfl ?_
      exact HEND.out
    | succ j =>
      obtain ⟨x, hx⟩ : ∃ x, bs[j]? = some x := ⟨_, List.getElem?_eq_getElem (by omega)⟩
      obtain ⟨ad, rfl, hc⟩ := HSC.out j x hx
      have d0 : wr.cell? (ad.add j) = some (.int .u8 x) := HB.out.cell (p := ad.add j) (by rw [block_of_add]; exact HSN.out _ rfl) hc
      have hj1 : ((j + 1 : Nat) : Int) - 1 = j := by omega
      have hj0 : (0 : Int) ≤ j := by omega
      have hj2 : (j : Int) < bs.length := by omega
      have hplen : pre.length < bs.length := by
        have h := congrArg List.length HPRE.out
        simp only [List.length_map, List.length_reverse, List.length_drop] at h
        omega
      have hnew : ((pre ++ [((j : Int), x)]).map Prod.snd) = (bs.drop j).reverse := by
        rw [List.map_append, HPRE.out, List.drop_eq_getElem_cons (i := j) (by omega), List.reverse_cons]
        have hxx : bs[j] = x := (List.getElem?_eq_some_iff.1 hx).2
        rw [hxx]
        rfl
      have HNEW := Lib.hid hnew
      rw [hj1]
      have hyy : YieldAt Fence.wide (n - 1) Try.prog l (encB ((j : Int), x)) wr fun e W' => ∃ bo, e = .returned (.bool bo) ∧ AfterB ok J Jx W (pre ++ [((j : Int), x)]) bo W' := by
        refine YieldAt.mono (HY.out pre ((j : Int), x) wr HJP.out (HR0.out x (List.mem_of_getElem? hx)) hplen) ?_
        rintro e W' (⟨he, h⟩ | ⟨he, h⟩)
        · exact ⟨true, he, by unfold AfterB; rw [if_pos rfl]; exact ⟨h.1, HB.out.trans h.2⟩⟩
        · exact ⟨false, he, by unfold AfterB; rw [if_neg (by decide)]; exact h⟩
      obtain ⟨fn, tmps, assign, body, hy, hR⟩ := hyy
      have HRR := Lib.hid hR
      clear hc hx hplen hnew hR
      unfold encB at hy
      gi_wp2
      refine HRR.out.mono ?_
      rintro e w8 ⟨bo, rfl, hbo⟩
      have HBO := Lib.hid hbo
      clear hbo
      cases bo with
      | true =>
        have HJ8 : Hid (J (pre ++ [((j : Int), x)]) w8 ∧ KeepIn ok W w8) := Lib.hid (by have h := HBO.out; unfold AfterB at h; rwa [if_pos rfl] at h)
        have hw1 : wrap64 ((j : Int) - 1) = j - 1 := by rw [wrap64]; omega
        clear HBO HRR hy
        gi_wp2
        go_roundw
        case rel => exact ⟨j, pre ++ [((j : Int), x)], by omega, rfl, HJ8.out.1, HNEW.out, HJ8.out.2⟩
        case measure => simp [intOf]
      | false =>
        have HJ8 : Hid (Jx (pre ++ [((j : Int), x)]) w8) := Lib.hid (by have h := HBO.out; unfold AfterB at h; rwa [if_neg (by decide)] at h)
        clear HBO HRR hy
        gi_wp2
        refine bodyPost_ret (results_none rfl _ _ _) rfl ?_
        exact .inl ⟨⟨_, rfl⟩, .inr ⟨_, trivial, HJ8.out⟩⟩
/-- The iterator's contract. -/
theorem back_seq (n : Nat) (hn : 1 ≤ n) (P : Nat) (ok : Nat → Prop) (s : Value) (bs : List Int) (w : World) (hP : w.heap[P]? = some (.cells #[s] 26)) (hs : Sees w s (u8s bs)) (hr : ∀ x ∈ bs, 0 ≤ x ∧ x ≤ 255) (hl : bs.length ≤ 1000000000000) (hPn : ok P) (hsn : ∀ b, s.ownBlock = some b → ok b) :
    SeqB Fence.wide n Try.prog 75 #[.pointer (some ⟨P, 0, none⟩)] encB AnyA (KeepIn ok) (BAll bs) (fun _ => True) NoT bs.length w := fun l J Jx W hW hJ hJx hY h0 =>
  back1_in n hn l P ok s bs J Jx W hY (hW.heap hP (by simp)) (hs.but hW (by simp)) hr hl hPn hsn h0
theorem ofInt_i64 (a : Nat) (ha : a < 18446744073709551616) : (BitVec.ofInt 64 (a : Int)).toNat = a := by
  rw [BitVec.ofInt_natCast, BitVec.toNat_ofNat]; exact Nat.mod_eq_of_lt (by omega)
theorem join64 {n c : Int} (h1 : 0 ≤ n) (h2 : n < 4294967296) (h3 : 0 ≤ c) (h4 : c ≤ 255) : bits .or .i64 (n * 256) c = n * 256 + c := by
  obtain ⟨N, rfl⟩ := Int.eq_ofNat_of_zero_le h1
  obtain ⟨C, rfl⟩ := Int.eq_ofNat_of_zero_le h3
  rw [show ((N : Int) * 256) = ((N * 256 : Nat) : Int) from by omega]
  show IntKind.i64.wrap ((BitVec.ofInt 64 ((N * 256 : Nat) : Int) ||| BitVec.ofInt 64 (C : Int)).toNat : Int) = _
  rw [BitVec.toNat_or, ofInt_i64 _ (by omega), ofInt_i64 _ (by omega), nat_join 8 (N * 256) C (by omega) (by omega), IntKind.wrap_i64]
  omega
/-- The number that bytes are, the lowest first. -/
def leV (bs : List Int) : Int := bs.foldr (fun x n => n * 256 + x) 0
def valR (pre : List (Int × Int)) : Int := (pre.map Prod.snd).foldl (fun n x => n * 256 + x) 0
theorem valR_all {bs : List Int} {pre : List (Int × Int)} (h : BAll bs pre) : valR pre = leV bs := by
  unfold valR leV
  rw [h, List.foldl_reverse]
theorem valR_more (pre : List (Int × Int)) (x : Int × Int) : valR (pre ++ [x]) = valR pre * 256 + x.2 := by simp [valR]
theorem fold_bound : ∀ (l : List Int) (n : Int) (k : Nat), (∀ x ∈ l, 0 ≤ x ∧ x ≤ 255) → 0 ≤ n → n < 256 ^ k → 0 ≤ l.foldl (fun n x => n * 256 + x) n ∧ l.foldl (fun n x => n * 256 + x) n < 256 ^ (k + l.length)
  | [], n, k, _, h0, h1 => ⟨h0, h1⟩
  | x :: l, n, k, h, h0, h1 => by
    have hx := h x List.mem_cons_self
    have hp : (256 : Int) ^ (k + 1) = 256 ^ k * 256 := Int.pow_succ _ _
    have h2 := fold_bound l (n * 256 + x) (k + 1) (fun y hy => h y (List.mem_cons_of_mem _ hy)) (by omega) (by omega)
    rw [List.foldl_cons, List.length_cons, show k + (l.length + 1) = k + 1 + l.length from by omega]
    exact h2
theorem valR_bound {pre : List (Int × Int)} (h : ∀ x ∈ pre, 0 ≤ x.2 ∧ x.2 ≤ 255) (hl : pre.length < 4) : 0 ≤ valR pre ∧ valR pre < 16777216 := by
  have h1 := fold_bound (pre.map Prod.snd) 0 0 (by simp only [List.mem_map]; rintro x ⟨y, hy, rfl⟩; exact h y hy) (by omega) (by decide)
  rw [List.length_map] at h1
  refine ⟨h1.1, Int.lt_of_lt_of_le h1.2 ?_⟩
  rw [Nat.zero_add]
  have hk : ∀ k : Nat, k < 4 → (256 : Int) ^ k ≤ 16777216 := by decide
  exact hk _ hl
theorem heap_far {w w' : World} {k : Nat} {cs : Array Value} {t : TypeId} {f : Nat × Nat} {L : List Nat} (h : w.heap[k]? = some (.cells cs t f)) (hb : But L w w') {B : Nat} (hL : ∀ x ∈ L, B ≤ x ∧ ∃ o, w.heap[x]? = some o ∧ o.isCells = false) : w'.heap[k]? = some (.cells cs t f) :=
  hb.heap h (fun hm => by
    obtain ⟨_, o, ho, hoc⟩ := hL k hm
    rw [h] at ho
    cases ho
    cases hoc)
theorem add_zero (ad : Addr) : ad.add 0 = ad := by simp [Addr.add]
theorem Sees.head {w : World} {ad : Addr} {c n : Nat} {l : List Int} (h : Sees w (.slice (some ad) l.length c) (u8s l)) (hn : n ≤ l.length) : Sees w (.slice (some ad) n c) (u8s (l.take n)) := by
  rcases h with ⟨h, _⟩ | ⟨ad', c', h, hc, hx⟩
  · cases h
  · simp only [Value.slice.injEq, Option.some.injEq] at h
    obtain ⟨rfl, hl, rfl⟩ := h
    rw [u8s_len] at hc
    refine .inr ⟨ad, c, by rw [u8s_len, List.length_take, Nat.min_eq_left hn], by rw [u8s_len, List.length_take]; omega, fun j u hj => hx j u ?_⟩
    rw [u8s, List.map_take, List.getElem?_take] at hj
    split at hj
    · exact hj
    · cases hj
theorem Sees.len {w : World} {ad : Addr} {c n : Nat} {xs : List Value} (h : Sees w (.slice (some ad) n c) xs) : n ≤ c ∧ xs.length = n := by
  rcases h with ⟨h, _⟩ | ⟨ad', c', h, hc, hx⟩
  · cases h
  · simp only [Value.slice.injEq, Option.some.injEq] at h
    obtain ⟨rfl, rfl, rfl⟩ := h
    exact ⟨hc, rfl⟩
theorem Sees.low {w : World} {v : Value} {xs : List Value} (h : Sees w v xs) (hx : 0 < xs.length) : ∀ b, v.ownBlock = some b → b < w.heap.size := by
  rcases h with ⟨rfl, h⟩ | ⟨ad, c, rfl, hc, h⟩
  · subst h; simp at hx
  · intro b hb
    have h0 := h 0 (xs[0]) (List.getElem?_eq_getElem hx)
    have := cell_lt h0
    rw [block_of_add] at this
    cases hb
    exact this
/-- What stands between two rounds. -/
structure WhI (w : World) (B : Nat) (pre : List (Int × Int)) (W : World) : Prop where
  box : W.heap[B]? = some (.cells #[.int .i64 (valR pre)] 3)
  ok : ∀ x ∈ pre, 0 ≤ x.2 ∧ x.2 ≤ 255
  but : But [] w W
theorem WhI.abides (w : World) (B : Nat) (hB : w.heap.size ≤ B) : Abides (B + 1) (WhI w B) := Abides.of_but fun pre V W L h hb hL =>
  ⟨heap_far h.box hb hL, h.ok, h.but.trans hb (fun x hx => .inr (by have := (hL x hx).1; omega))⟩
theorem WhI.abides2 (w : World) (B : Nat) (hB : w.heap.size ≤ B) : Abides (B + 2) (WhI w B) := (WhI.abides w B hB).mono (by omega)
theorem anyA_abides (B : Nat) : Abides B AnyA := ⟨fun _ _ _ h _ => h, fun _ _ _ _ _ h _ _ _ => h⟩
theorem WhI.more {w W : World} {B : Nat} {pre : List (Int × Int)} {x : Int × Int} (hB : w.heap.size ≤ B) (h : WhI w B pre W) (hx : AnyA x W) :
    KeepsOthers W (W.setCell ⟨B, 0, none⟩ (.int .i64 (valR pre * 256 + x.2))) ∧ (∀ ok : Nat → Prop, ¬ ok B → KeepIn ok W (W.setCell ⟨B, 0, none⟩ (.int .i64 (valR pre * 256 + x.2)))) ∧ WhI w B (pre ++ [x]) (W.setCell ⟨B, 0, none⟩ (.int .i64 (valR pre * 256 + x.2))) := by
  have hs : But [B] W (W.setCell ⟨B, 0, none⟩ (.int .i64 (valR pre * 256 + x.2))) := (But.refl _ _).setCell (.inl (by simp)) _
  refine ⟨keepsOthers_of_but hs (fun y hy => ?_), fun ok hok => KeepIn.of_but hs (fun y hy => by simp at hy; subst hy; exact hok), ?_, fun y hy => ?_, h.but.trans hs (fun y hy => .inr (by simp at hy; omega))⟩
  · simp only [List.mem_singleton] at hy
    subst hy
    exact ⟨_, _, _, h.box⟩
  · rw [valR_more]
    simp [World.setCell, Array.getElem?_modify, h.box]
  · rcases List.mem_append.1 hy with hy | hy
    · exact h.ok y hy
    · simp only [List.mem_singleton] at hy
      subst hy
      exact hx
set_option maxRecDepth 100000 in
set_option maxHeartbeats 4000000 in
theorem many_w (ad : Addr) (c0 : Nat) (ks : List Int) (w : World) (hs0 : Sees w (.slice (some ad) ks.length c0) (u8s ks)) (hr0 : ByteL ks) (h4 : 4 ≤ ks.length) :
    CallsIn Fence.wide 3 Try.prog 45 #[.slice (some ad) ks.length c0] w fun e w' => e = .returned (.int .i64 (leV (ks.take 4))) ∧ But [] w w' := by
  have hs : Sees w (.slice (some ad) 4 c0) (u8s (ks.take 4)) := hs0.head h4
  have hc4 := hs.len.1
  have hr : ∀ x ∈ ks.take 4, 0 ≤ x ∧ x ≤ 255 := fun x hx => hr0 x (List.mem_of_mem_take hx)
  have hl : (ks.take 4).length = 4 := by rw [List.length_take]; omega
  have hsn := hs.low (by rw [u8s_len]; omega)
  generalize ks.take 4 = bs at *
  have h1 : 1 ≤ 3 := by decide
  obtain ⟨w1, hw1⟩ : ∃ w1, w1 = (w.alloc (.cells #[.int .i64 0] 3)).alloc (.cells #[.slice (some ad) 4 c0] 26) := ⟨_, rfl⟩
  have hb1 : But [] w w1 := by rw [hw1]; exact ((But.refl [] w).alloc _).alloc _
  have hz1 : w1.heap.size = w.heap.size + 2 := by rw [hw1, size_alloc, size_alloc]
  have g0 : w1.heap[w.heap.size]? = some (.cells #[.int .i64 0] 3) := by rw [hw1]; exact al_keep (al_at w _) _
  have g1 : w1.heap[w.heap.size + 1]? = some (.cells #[.slice (some ad) 4 c0] 26) := by rw [hw1]; exact al_eq _ _ _ (by rw [size_alloc])
  have HW := Lib.hid hw1
  have HS := Lib.hid (back_seq 2 (by omega) (w.heap.size + 1) (fun b => b ≠ w.heap.size ∧ b < w.heap.size + 2) (.slice (some ad) 4 c0) bs w1 g1 (hs.but hb1 (by simp)) hr (by omega) ⟨by omega, by omega⟩ (fun b hb => by have := hsn b hb; omega))
  have HI0 : Hid (WhI w w.heap.size [] w1) := Lib.hid ⟨g0, by simp, hb1⟩
  have HZ := Lib.hid hz1
  have hca : ¬ (c0 = 0) := by omega
  have ha0 := add_zero ad
  clear hw1 hb1 g0 g1 hs hr hsn hz1 hs0 hr0
  refine callsIn_of_wp_marks Try.func45 rfl trivial ?_ rfl
  simp only [Try.ntmps45, List.size_toArray, List.length_cons, List.length_nil, Nat.reduceAdd, Nat.reduceSub, Array.replicate_succ, Array.replicate_zero, List.push_toArray, List.append_toArray, List.nil_append, List.cons_append]
  gi_wp2
  refine ⟨trivial, ?_⟩
  refine (callsIn_wide.2 (back_c _ _ _ _)).mono ?_
  rintro e w2 ⟨rfl, rfl⟩
  gi_wp2
  rw [← HW.out]
  refine wpIn_rangeFunc_but rfl h1 (gf := 75) (lb := #[.pointer (some ⟨w.heap.size + 1, 0, none⟩)]) rfl trivial (enters_of Try.func75 (by kernel_rfl) rfl) HS.out
    (fun h k => h.trans k) (fun hz hb => KeepIn.of_but hb (by simp)) (fun V l o o' hl hV ho => KeepIn.of_but (but_putObj o' hV) (by have := HZ.out; simp only [List.mem_singleton]; rintro x rfl ⟨h1, h2⟩; omega)) (anyA_abides _) (But.refl _ _) (fun _ => rfl)
    (WhI w w.heap.size) (fun _ _ _ => False) (HZ.out ▸ WhI.abides2 w w.heap.size (Nat.le_refl _)) (fun _ => Abides.none _) HI0.out
    (fun x a' _ => a' = { tmps := #[.slice (some ad) ks.length c0, undef, .int .i64 0, .pointer (some ⟨w.heap.size, 0, none⟩), undef, .int .u8 x.2, .slice (some ad) ks.length c0, .slice (some ad) 4 c0, .func (.func 75) #[] #[.pointer (some ⟨w.heap.size + 1, 0, none⟩)], .int .i64 x.1, .int .u8 x.2, undef, undef, undef, undef, undef, undef], defers := [] })
    (fun a' => ⟨fun _ _ _ h _ => h, fun _ _ _ _ _ h _ _ _ => h⟩) ?assign ?body ?done ?stop ?throw
  case assign =>
    intro l pre x W K _ _ _ hK
    simp only [encB]
    gi_wp2
    exact hK _ _ (But.refl _ _) rfl
  case body =>
    rintro l pre x a' W hx0 hI hx _ hlt
    subst hx0
    have hc : W.cell? ⟨w.heap.size, 0, none⟩ = some (.int .i64 (valR pre)) := cl_of hI.box 0
    have hf : W.frozen? ⟨w.heap.size, 0, none⟩ = false := by (unfold World.frozen?; rw [hI.box]; simp)
    have hv := valR_bound hI.ok (by omega)
    obtain ⟨hv0, hv1⟩ := hv
    obtain ⟨i, c⟩ := x
    obtain ⟨hx0, hx1⟩ := id hx
    simp only at hx0 hx1
    have HRES := Lib.hid (hI.more (Nat.le_refl _) hx)
    have hj : bits .or .i64 (valR pre * 256) c = valR pre * 256 + c := join64 hv0 (by omega) hx0 (by omega)
    have hw8 : IntKind.i64.wrap (valR pre * 256) = valR pre * 256 := by rw [IntKind.wrap_i64]; omega
    have hwc : IntKind.i64.wrap c = c := by rw [IntKind.wrap_i64]; omega
    have hw8' : wrap64 (valR pre * 256) = valR pre * 256 := by rw [wrap64]; omega
    have hwc' : wrap64 c = c := by rw [wrap64]; omega
    clear hI hx
    gi_wp2
    exact ⟨HRES.out.1, HRES.out.2.1 _ (fun h => h.1 rfl), HRES.out.2.2⟩
  case done =>
    rintro D ys W rfl hS hI hK
    have hv : valR ys = leV bs := valR_all hS
    have hc : W.cell? ⟨w.heap.size, 0, none⟩ = some (.int .i64 (leV bs)) := by rw [← hv]; exact cl_of hI.box 0
    have hb2 : But [w1.heap.size] W (W.putObj w1.heap.size (.deferred none)) := but_putObj _ hK
    have HEND := Lib.hid (show But [] w (W.putObj w1.heap.size (.deferred none)) from hI.but.trans hb2 (fun x hx => .inr (by have := HZ.out; simp at hx; omega)))
    clear hI hS
    gi_wp2
    refine ⟨by simp, .inl ⟨_, _, rfl, run_takeDeferred hK, ?_⟩⟩
    refine ⟨_, results_tmp rfl _ _ _, ?_⟩
    exact ⟨by first | rfl | (rw [IntKind.wrap_i32]; rfl) | (simp [IntKind.wrap_i32, wrap32, Array.getD]), HEND.out⟩
  case stop =>
    rintro D c pre W _ _ h _
    exact h.elim
  case throw =>
    rintro D pre chain W _ h _ _
    exact h.elim
end Go.Proofs.Ytpoinhfkgnkedaa.D
