/-
  A range over a function whose body may turn what it likes but the statement's own two blocks (XRangeD's law beside XRange's). No program.
-/
import Derived.Test.YtpoinhfkgnkedaaRange
namespace Go.Proofs.Ytpoinhfkgnkedaa.M
open Go.RowKit Go.Shelf
set_option linter.unusedVariables false
set_option linter.unusedSectionVars false
set_option linter.unusedSimpArgs false
/-- The statement's own two blocks stay. -/
def KeepsD (D : Nat) (W W' : World) : Prop := ∀ k, k = D ∨ k = D + 1 → W'.heap[k]? = W.heap[k]?
theorem KeepsD.of_but {D : Nat} {W W' : World} {L : List Nat} (hb : But L W W') (hD : D + 1 < W.heap.size) (hL : ∀ x ∈ L, x ≠ D ∧ x ≠ D + 1) : KeepsD D W W' := fun k hk =>
  hb.block k (by omega) (fun hm => by have := hL k hm; omega)
def ownPostD {α : Type} (D : Nat) (Kp : World → World → Prop) (I : List α → World → Prop) (Ix : Code → List α → World → Prop) (xs : List α) (W : World) : Exit → Act → World → Prop
  | .normal, _, W' => KeepsD D W W' ∧ Kp W W' ∧ I xs W'
  | .ret, _, W' => KeepsD D W W' ∧ Ix .ret xs W'
  | .exit id, _, W' => KeepsD D W W' ∧ Ix (.exit id) xs W'
  | .goto t, _, W' => KeepsD D W W' ∧ Ix (.goto t) xs W'
  | .panic _, _, _ => False
  | .outgrown, _, _ => False
section
variable {F : Fence} {n : Nat} {P : Program}
/-- The law of the statement 'for .. := range f'. -/
theorem wpIn_rangeFunc_d {α : Type} {g : Operand} {ps : Array Tmp} {assign body : Code} {Q : Exit → Act → World → Prop} {a : Act} {w : World}
    (hro : F.round = none) (h1 : 1 ≤ n) {gf : Nat} {lb : Array Value} (hg : a.eval g = .func (.func gf) #[] lb) (hFg : F.fn gf) (eg : ∀ args w, (callFunc gf args).run P w = .ok (.enter gf args) w)
    {encs : α → Array Value} {A : α → World → Prop} {Kp : World → World → Prop} {S Sp : List α → Prop} {Tp : List α → List PanicEntry → Prop} {N : Nat} {w0 : World} (hseq : SeqB F (n - 1) P gf lb encs A Kp S Sp Tp N w0)
    (hKt : ∀ {V X Y : World}, Kp V X → Kp X Y → Kp V Y) (hKn : ∀ {V X : World}, w.heap.size ≤ V.heap.size → But [] V X → Kp V X) (hKb : ∀ (V : World) (l : Nat) (o o' : Obj), w.heap.size ≤ l → V.heap[l]? = some o → o.isCells = false → Kp V (V.putObj l o'))
    (hA : Abides w.heap.size A) (hb0 : But [] w0 w) (hps : ∀ x, (encs x).size = ps.size)
    (I : List α → World → Prop) (Ix : Code → List α → World → Prop) (hI : Abides w.heap.size I) (hIx : ∀ c, Abides w.heap.size (Ix c)) (h0 : I [] w)
    (Ax : α → Act → World → Prop) (hAx : ∀ a', Abides w.heap.size (fun x W => Ax x a' W))
    (hassign : ∀ (l : Nat) (pre : List α) (x : α) (W : World) (K : Act → World → Prop), I pre W → A x W → w.heap.size < W.heap.size → (∀ a' W', But [] W W' → Ax x a' W' → K a' W') →
      assign.wpIn (F.inRound l) (n - 1 - 1) P (Exit.then K (fun _ _ _ => False)) { tmps := (ps.zip (encs x)).foldl (fun t (p, v) => t.setIfInBounds p v) a.tmps, defers := [] } W)
    (hbody : ∀ (l : Nat) (pre : List α) (x : α) (a' : Act) (W : World), Ax x a' W → I pre W → A x W → w.heap.size + 1 < W.heap.size → pre.length < N → body.wpIn (F.inRound l) (n - 1 - 1) P (ownPostD w.heap.size Kp I Ix (pre ++ [x]) W) a' W)
    (hdone : ∀ (D : Nat) (xs : List α) (W : World), D = w.heap.size → S xs → I xs W → W.heap[D]? = some (.deferred (some [])) → Q .normal { a with defers := { target := .collected D, args := #[] } :: a.defers } W)
    (hstop : ∀ (D : Nat) (c : Code) (pre : List α) (W : World), D = w.heap.size → Sp pre → Ix c pre W → W.heap[D]? = some (.deferred (some [])) → c.wpIn F n P Q { a with defers := { target := .collected D, args := #[] } :: a.defers } W)
    (hthrow : ∀ (D : Nat) (pre : List α) (chain : List PanicEntry) (W : World), D = w.heap.size → Tp pre chain → I pre W → W.heap[D]? = some (.deferred (some [])) → Q (.panic chain) { a with defers := { target := .collected D, args := #[] } :: a.defers } W) :
    (Code.rangeFunc g ps assign body).wpIn F n P Q a w := by
  refine wpIn_rangeFunc fun fn hfn => ?_
  rw [hro]
  let rec' : LoopState → Option Code → Loop := fun st pe => { state := st, pending := pe, fn, tmps := a.tmps, params := ps, assign, body, defers := w.heap.size }
  obtain ⟨rec, hrec⟩ : ∃ r, r = rec' := ⟨_, rfl⟩
  obtain ⟨W1, hW1⟩ : ∃ X, X = (w.alloc (.deferred (some []))).alloc (.loop (rec .ready none)) := ⟨_, rfl⟩
  have hbW : But [] w W1 := by rw [hW1]; exact ((But.refl [] w).alloc _).alloc _
  have hlast : ∀ (V : World) (o : Obj), (V.alloc o).heap[V.heap.size]? = some o := fun V o => World.alloc_heap_new V o
  have hL1 : W1.heap[w.heap.size + 1]? = some (.loop (rec .ready none)) := by
    have h := hlast (w.alloc (.deferred (some []))) (.loop (rec .ready none))
    rw [size_alloc] at h
    rw [hW1]; exact h
  have hK1 : W1.heap[w.heap.size]? = some (.deferred (some [])) := by
    rw [hW1]; exact ((But.refl [] (w.alloc (.deferred (some [])))).alloc _).heap (hlast w _) (by simp)
  have hz1 : W1.heap.size = w.heap.size + 2 := by rw [hW1, size_alloc, size_alloc]
  refine ⟨w.heap.size + 1, [{ target := .collected w.heap.size, args := #[] }], W1, { target := .fn (.func gf) lb, args := #[.func (.yield (w.heap.size + 1)) #[] #[]] }, W1, gf, #[.func (.yield (w.heap.size + 1)) #[] #[]] ++ lb, W1, ?_, ?_, ?_, ?_, fun _ => h1, ?_⟩
  · rw [hW1, hrec]; exact run_enterLoop_outer _ _ _ _ _
  · simp only [resolve, hg]
    simp [go_sem]
  · intro f' hf'
    simp [Target.leads] at hf'
    subst hf'; exact hFg
  · simp [invoke, go_sem, eg]
  -- the two facts of the statement's own, beside the caller's
  let Bk : Loop → World → Prop := fun r W => W.heap[w.heap.size + 1]? = some (.loop r) ∧ W.heap[w.heap.size]? = some (.deferred (some []))
  have hBk : ∀ r, Abides (β := Unit) W1.heap.size (fun _ W => Bk r W) := fun r => Abides.of_but fun _ V X L hs hb hL =>
    ⟨hb.heap hs.1 (fun hm => by have := (hL _ hm).1; omega), hb.heap hs.2 (fun hm => by have := (hL _ hm).1; omega)⟩
  have hI' := hI.mono (show w.heap.size ≤ W1.heap.size by omega)
  have hIx' := fun c => (hIx c).mono (show w.heap.size ≤ W1.heap.size by omega)
  refine (hseq (w.heap.size + 1) (fun pre W => I pre W ∧ Bk (rec .ready none) W) (fun pre W => ∃ c, Ix c pre W ∧ Bk (rec .done (some c)) W) W1 (hb0.trans hbW (by simp))
    ⟨fun s V X hs hb => ⟨hI'.new s V X hs.1 hb, (hBk _).new () V X hs.2 hb⟩, fun s V r o o' hs hr ho hc => ⟨hI'.put s V r o o' hs.1 hr ho hc, (hBk _).put () V r o o' hs.2 hr ho hc⟩⟩
    ⟨fun s V X ⟨c, hs⟩ hb => ⟨c, (hIx' c).new s V X hs.1 hb, (hBk _).new () V X hs.2 hb⟩, fun s V r o o' ⟨c, hs⟩ hr ho hc => ⟨c, (hIx' c).put s V r o o' hs.1 hr ho hc, (hBk _).put () V r o o' hs.2 hr ho hc⟩⟩
    ?_ ⟨hI.new _ _ _ h0 hbW, hL1, hK1⟩).mono ?_
  · -- one round
    rintro pre x W ⟨hi, hl, hk⟩ hax hlen
    have hlt : w.heap.size + 1 < W.heap.size := lt_of hl
    have hy := run_yield (P := P) (args := encs x) hl (by rw [hrec]; exact hps x)
    rw [hrec] at hy
    refine ⟨fn, _, assign, body, hy, roundIn_of_wpIn hfn (hassign _ pre x W _ hi hax (by omega) fun a' X hbX haX => ?_)⟩
    have hiX := hI.new _ _ _ hi hbX
    have haxX := hA.new _ _ _ hax hbX
    have hlX := hbX.heap hl (by simp)
    have hkX := hbX.heap hk (by simp)
    have hltX := lt_of hlX
    refine ⟨_, run_beginRound hlX (by rw [hrec]), ?_⟩
    obtain ⟨Y, hY⟩ : ∃ Y, Y = X.putObj (w.heap.size + 1) (.loop { rec .ready none with state := .busy }) := ⟨_, rfl⟩
    rw [← hY]
    have hlY : Y.heap[w.heap.size + 1]? = some (.loop { rec .ready none with state := .busy }) := by rw [hY]; exact World.putObj_heap_same hltX
    have hkY : Y.heap[w.heap.size]? = some (.deferred (some [])) := by rw [hY]; exact (World.putObj_heap_other (by omega)).trans hkX
    have hiY : I pre Y := by rw [hY]; exact hI.put _ _ _ _ _ hiX (by omega) hlX rfl
    have haY : A x Y := by rw [hY]; exact hA.put _ _ _ _ _ haxX (by omega) hlX rfl
    have haxY : Ax x a' Y := by rw [hY]; exact (hAx a').put _ _ _ _ _ haX (by omega) hlX rfl
    have hzY : w.heap.size + 1 < Y.heap.size := lt_of hlY
    have hkpY : Kp W Y := by rw [hY]; exact hKt (hKn (by omega) hbX) (hKb _ _ _ _ (by omega) hlX rfl)
    refine wpIn_mono (hbody _ pre x a' Y haxY hiY haY hzY hlen) ?_
    have fin : ∀ (jump : Option Code) (Z : World), KeepsD w.heap.size Y Z → ∃ Z', Z' = Z.putObj (w.heap.size + 1) (.loop (rec (if jump.isNone then .ready else .done) jump)) ∧ (Instr.endRound (w.heap.size + 1) jump).run P Z = .ok (.bool jump.isNone) Z' ∧ Z.heap[w.heap.size + 1]? = some (.loop { rec .ready none with state := .busy }) ∧ Bk (rec (if jump.isNone then .ready else .done) jump) Z' := fun jump Z hko => by
      have hlZ := (hko _ (.inr rfl)).trans hlY
      have hr := run_endRound (P := P) jump hlZ
      refine ⟨_, rfl, ?_, hlZ, World.putObj_heap_same (lt_of hlZ), (World.putObj_heap_other (by omega)).trans ((hko _ (.inl rfl)).trans hkY)⟩
      rw [hr, hrec]
    have leave : ∀ (c : Code) (Z : World), KeepsD w.heap.size Y Z ∧ Ix c (pre ++ [x]) Z → ∃ v Z', (Instr.endRound (w.heap.size + 1) (some c)).run P Z = .ok v Z' ∧ ((Ending.returned v = .returned (.bool true) ∧ (I (pre ++ [x]) Z' ∧ Bk (rec .ready none) Z') ∧ Kp W Z') ∨ (Ending.returned v = .returned (.bool false) ∧ ∃ c, Ix c (pre ++ [x]) Z' ∧ Bk (rec .done (some c)) Z')) := fun c Z ⟨hko, hix⟩ => by
      obtain ⟨Z', hZ', hr, hlZ, hbk⟩ := fin (some c) Z hko
      exact ⟨_, Z', hr, .inr ⟨rfl, c, by rw [hZ']; exact (hIx c).put _ _ _ _ _ hix (by omega) hlZ rfl, hbk⟩⟩
    rintro e a3 Z hp
    cases e with
    | normal =>
      obtain ⟨hko, hkp, hi3⟩ := hp
      obtain ⟨Z', hZ', hr, hlZ, hbk⟩ := fin none Z hko
      exact ⟨_, Z', hr, .inl ⟨rfl, ⟨by rw [hZ']; exact hI.put _ _ _ _ _ hi3 (by omega) hlZ rfl, hbk⟩, by rw [hZ']; exact hKt (hKt hkpY hkp) (hKb _ _ _ _ (by omega) hlZ rfl)⟩⟩
    | ret => exact leave .ret Z hp
    | exit id => exact leave (.exit id) Z hp
    | goto t => exact leave (.goto t) Z hp
    | panic ch => exact hp.elim
    | outgrown => exact hp.elim
  · -- behind the iterator
    rintro e Z (⟨⟨v, rfl⟩, ⟨xs, hS, hi, hl, hk⟩ | ⟨pre, hSp, c, hi, hl, hk⟩⟩ | ⟨pre, chain, hT, rfl, hi, hl, hk⟩)
    · have hr := run_endLoop (P := P) hl (by rw [hrec]; simp [rec'])
      rw [hrec] at hr
      exact ⟨none, _, hr, hdone _ xs _ rfl hS (hI.put _ _ _ _ _ hi (by omega) hl rfl) ((World.putObj_heap_other (by omega)).trans hk)⟩
    · have hr := run_endLoop (P := P) hl (by rw [hrec]; simp [rec'])
      rw [hrec] at hr
      exact ⟨some c, _, hr, hstop _ c pre _ rfl hSp ((hIx c).put _ _ _ _ _ hi (by omega) hl rfl) ((World.putObj_heap_other (by omega)).trans hk)⟩
    · exact hthrow _ pre chain _ rfl hT hi hk
end
end Go.Proofs.Ytpoinhfkgnkedaa.M
