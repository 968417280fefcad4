/-
  drop: the caller of the range. (Under way.)
-/
import Derived.Test.YtdobileefcidjaaLeft
import Derived.RangeFuncBox
import Derived.Laws.EntriesVeiled
namespace Go.Proofs.Ytdobileefcidjaa.M
open Go.RowKit Go.Shelf
set_option linter.unusedVariables false
set_option linter.unusedSectionVars false
set_option linter.unusedSimpArgs false
attribute [local go_sem] Oper.semAt_some
set_option maxHeartbeats 1000000 in
theorem left_in (F : Fence) (n : Nat) (h5 : F.fn 39) (hro : F.round = none) (p : Option Addr) (at' : Int) (w : World) :
    CallsIn F n Try.prog 39 #[.pointer p, .int .i64 at'] w fun e w' => e = .returned (.func (.func 64) #[] #[.pointer (some ⟨w.heap.size, 0, none⟩), .pointer (some ⟨w.heap.size + 1, 0, none⟩)]) ∧ w' = (w.alloc (.cells #[.pointer p] 101)).alloc (.cells #[.int .i64 at'] 3) := by
  refine callsIn_of_wp Try.func39 rfl h5 ?_ hro
  simp only [Try.ntmps39, List.size_toArray, List.length_cons, List.length_nil, Nat.reduceAdd, Nat.reduceSub, Array.replicate_succ, Array.replicate_zero, List.push_toArray, List.append_toArray, List.nil_append, List.cons_append]
  gi_wp2
  go_ret
  exact ⟨rfl, rfl⟩
theorem left_stops (F : Fence) (n : Nat) (h6 : F.fn 64) (hro : F.round = none) (hn : 1 ≤ n) (Bn Ba Q n0 at' g o c : Nat) (vals : List Sl) (w : World) (hBn : Bn < w.heap.size) (hBal : Ba < w.heap.size) (hn0 : n0 ≤ w.heap.size) (hQn : Q < n0) (hgn : g < n0) (hvl : vals.length ≤ 1000000) (hcc : vals.length ≤ c)
    (hc : w.cell? ⟨Bn, 0, none⟩ = some (.pointer (some ⟨Q, 0, none⟩))) (ha : w.heap[Ba]? = some (.cells #[.int .i64 at'] 3)) (hR : w.cell? ⟨Q, 0, none⟩ = some (.slice (some ⟨g, o, none⟩) vals.length c)) (hL : ∀ j (x : Sl), vals[j]? = some x → w.cell? ⟨g, o + j, none⟩ = some (.slice x.1 x.2.1 x.2.2)) :
    SeqStopsK F n Try.prog 64 #[.pointer (some ⟨Bn, 0, none⟩), .pointer (some ⟨Ba, 0, none⟩)] (fun x : Sl => #[Value.slice x.1 x.2.1 x.2.2]) (KpA n0 Ba) (fun ys => ys = vals.eraseIdx at') (fun pre => pre <+: vals.eraseIdx at') (vals.eraseIdx at').length w := fun l J Jx W hW _ _ hY h0 =>
  have hb := hW.mono hn0
  left1_in F n h6 hro hn l Bn Ba Q n0 at' g o c vals J Jx hY W ((hW.cell (p := ⟨Bn, 0, none⟩) hBn).trans hc) ((hW.block Ba hBal).trans ha) hgn hvl hcc ((hb.cell (p := ⟨Q, 0, none⟩) hQn).trans hR) (fun j x hx => (hb.cell (p := ⟨g, o + j, none⟩) hgn).trans (hL j x hx)) h0
theorem kpA_b {n0 Ba : Nat} {w : World} (h : n0 ≤ w.heap.size) (hB : Ba < w.heap.size) (W : World) (l : Nat) (o o' : Obj) (hl : w.heap.size ≤ l) (hW : W.heap[l]? = some o) (h1 : o.isCells = false) (h2 : o.isWalk = false) : KpA n0 Ba W (W.putObj l o') :=
  ⟨belowK_b (w := w) h W l o o' hl hW h1 h2, World.putObj_heap_other (by omega)⟩
theorem block_own {β : Type} (B : Nat) {cs : Array Value} (t : TypeId) : Go.Own (fun (_ : β) W => W.heap[B]? = some (.cells cs t (0, 0))) := by
  intro s X Y row hs hg hr
  refine (hg.block B (lt_of hs) (fun e => ?_)).trans hs
  obtain ⟨o, ho, hc⟩ := hr B e.symm
  rw [hs] at ho
  cases ho
  cases hc
def listed (pre : List Sl) : List Value := pre.map fun x => Value.slice x.1 x.2.1 x.2.2
set_option maxRecDepth 100000 in
set_option maxHeartbeats 2000000 in
theorem drop_w (n : Nat) (hn : 6 ≤ n) (Q : Nat) (at' g o c : Nat) (vals : List Sl) (w : World) (cs : Array Value) (t : TypeId) (hQ : w.heap[Q]? = some (.cells cs t)) (h0 : cs[0]? = some (.slice (some ⟨g, o, none⟩) vals.length c)) (hvl : vals.length ≤ 1000000) (hcc : vals.length ≤ c) (hgl : g < w.heap.size)
    (hL : ∀ j (x : Sl), vals[j]? = some x → w.cell? ⟨g, o + j, none⟩ = some (.slice x.1 x.2.1 x.2.2)) :
    CallsIn Fence.wide n Try.prog 29 #[.pointer (some ⟨Q, 0, none⟩), .int .i64 at'] w fun e W' => e = .returned (.tuple #[]) ∧ ∃ (v : Value), W'.heap[Q]? = some (.cells (cs.setIfInBounds 0 v) t) ∧ W'.ownsRow w.heap.size 36 1 v (vals.eraseIdx at').length (listed (vals.eraseIdx at')) ∧ (∃ a c, v = .slice a (vals.eraseIdx at').length c) ∧ But [Q] w W' := by
  have h1 : 1 ≤ n := by omega
  refine callsIn_of_wp_marks Try.func29 rfl trivial ?_ rfl
  simp only [Try.ntmps29, List.size_toArray, List.length_cons, List.length_nil, Nat.reduceAdd, Nat.reduceSub, Array.replicate_succ, Array.replicate_zero, List.push_toArray, List.append_toArray, List.nil_append, List.cons_append]
  gi_wp2_with (first | (refine ⟨trivial, ?_⟩; gi_at_call 39; refine (left_in Fence.wide (n - 1) trivial rfl _ _ _).mono ?_; rintro e w' ⟨rfl, rfl⟩))
  obtain ⟨i0, hi, hz0, hz1, hz2⟩ := info_parts (show (Try.prog.info? 36).map (fun i => (i.zero, i.size, i.bytes)) = some (some (.slice none 0 0), 1, 24) by kernel_rfl)
  have bO := Boxed.new w 35 (.slice none 0 0)
  have bN := Boxed.new (w.alloc (.cells #[.slice none 0 0] 35)) 101 (.pointer (some ⟨Q, 0, none⟩))
  have bA := Boxed.new ((w.alloc (.cells #[.slice none 0 0] 35)).alloc (.cells #[.pointer (some ⟨Q, 0, none⟩)] 101)) 3 (.int .i64 at')
  rw [World.size_alloc] at bN
  rw [World.size_alloc, World.size_alloc] at bA
  have hB0 : Below w.heap.size w (((w.alloc (.cells #[.slice none 0 0] 35)).alloc (.cells #[.pointer (some ⟨Q, 0, none⟩)] 101)).alloc (.cells #[.int .i64 at'] 3)) := (((Below.refl _ w).alloc (Nat.le_refl _) _).alloc (by simp) _).alloc (by simp; omega) _
  have hQl : Q < w.heap.size := lt_of hQ
  have hQ0 : w.cell? ⟨Q, 0, none⟩ = some (.slice (some ⟨g, o, none⟩) vals.length c) := by unfold World.cell?; rw [hQ]; exact h0
  have hQf : w.frozen? ⟨Q, 0, none⟩ = false := by unfold World.frozen?; rw [hQ]; simp
  have hlen : (vals.eraseIdx at').length ≤ 1000000 := Nat.le_trans (List.length_eraseIdx_le _ _) hvl
  have HL := Lib.hid hL
  clear hL
  refine wpIn_rangeFunc_ownF rfl h1 (gf := 64) (lb := #[.pointer (some ⟨w.heap.size + 1, 0, none⟩), .pointer (some ⟨w.heap.size + 1 + 1, 0, none⟩)]) rfl trivial (enters_of Try.func64 (by kernel_rfl) rfl)
    (left_stops Fence.wide (n - 1) trivial rfl (by omega) (w.heap.size + 1) (w.heap.size + 1 + 1) Q w.heap.size at' g o c vals _ (by simp) (by simp) (by simp; omega) hQl hgl hvl hcc (bN.alloc _).cell bA ((hB0.cell (p := ⟨Q, 0, none⟩) hQl).trans hQ0) (fun j x hx => (hB0.cell (p := ⟨g, o + j, none⟩) hgl).trans (HL.out j x hx))) KpA.trans (kpA_b (by simp; omega) (by simp)) (Below.refl _ _) (fun _ => rfl)
    (fun pre W => ((∃ v, Boxed W w.heap.size 35 v ∧ W.ownsRow w.heap.size 36 1 v pre.length (listed pre) ∧ ∃ a c, v = .slice a pre.length c) ∧ W.heap[w.heap.size + 1 + 1]? = some (.cells #[.int .i64 at'] 3)) ∧ Below w.heap.size w W)
    (fun _ _ _ => False)
    (OwnFrom.and (OwnFrom.and (Own.from (holdsRow_own w.heap.size w.heap.size 35 36 1 (fun pre : List Sl => pre.length) listed (fun pre v => ∃ a c, v = .slice a pre.length c)) _) (Own.from (block_own (w.heap.size + 1 + 1) _) _)) (ownFrom_below (Nat.le_refl _) (by simp; omega)))
    (fun _ _ _ _ _ hs _ _ => hs)
    ⟨⟨⟨_, (bO.alloc _).alloc _, World.ownsRow_nil _ _ _ _, none, 0, rfl⟩, bA⟩, hB0⟩
    (fun x => { tmps := #[.pointer (some ⟨Q, 0, none⟩), .int .i64 at', undef, undef, .pointer (some ⟨w.heap.size, 0, none⟩), .slice x.1 x.2.1 x.2.2, .pointer (some ⟨Q, 0, none⟩), .int .i64 at', .func (.func 64) #[] #[.pointer (some ⟨w.heap.size + 1, 0, none⟩), .pointer (some ⟨w.heap.size + 1 + 1, 0, none⟩)], .slice x.1 x.2.1 x.2.2, undef, undef, undef, undef, undef, undef, undef, undef], defers := [] }) ?assign ?body ?done ?stop
  case assign =>
    intro l x W K hK
    gi_wp2
    exact hK
  case body =>
    rintro l pre x W ⟨⟨⟨v, hv, hrow, av, cv, rfl⟩, hA⟩, hB⟩ hlt
    have hc := hv.cell
    have hpl : pre.length ≤ 1000000 := by omega
    have hsz := hB.size
    have hne : ∀ (v' : Value) (w1 : World), w1.ownsRow w.heap.size 36 1 v' (pre.length + 1) (listed pre ++ [.slice x.1 x.2.1 x.2.2]) → (W.alloc (.cells #[.slice x.1 x.2.1 x.2.2] 36)).grownBy w1 (Value.slice av pre.length cv).ownBlock → (w1.setCell ⟨w.heap.size, 0, none⟩ v').heap[w.heap.size + 1 + 1]? = W.heap[w.heap.size + 1 + 1]? := fun v' w1 _ hg => by
      have hAl := lt_of hA
      have hne : some (w.heap.size + 1 + 1) ≠ (Value.slice av pre.length cv).ownBlock := fun e => by
        rcases hrow.2 with ⟨h, _⟩ | ⟨g', cap', cur', h, _, hgb, _⟩
        · simp only [Value.slice.injEq] at h
          obtain ⟨rfl, _⟩ := h
          cases e
        · simp only [Value.slice.injEq] at h
          obtain ⟨rfl, _⟩ := h
          simp only [Value.ownBlock, Option.some.injEq] at e
          rw [← e, hA] at hgb
          simp only [Option.some.injEq, Obj.cells.injEq] at hgb
          exact absurd hgb.2.1 (by decide)
      rw [Below.heap_setCell _ _ _ _ (by simp; omega), hg.block _ (by rw [World.size_alloc]; omega) hne, Below.heap_alloc _ _ _ hAl]
    have HNE := Lib.hid hne
    have HAA := Lib.hid hA
    clear hne hA
    gi_wp2_with (gi_at_builtin; refine wpListIn_append_own _ rfl _ _ 35 rfl w.heap.size 36 i0 (.slice none 0 0) 1 24 Try.underlying35 hi hz0 hz1 hz2 rfl (by decide) _ _ _ rfl (hrow.alloc _) ⟨W.heap.size, 0, none⟩ 1 1 [.slice x.1 x.2.1 x.2.2] rfl rfl (cell_one_new _ _ _) (by simp [Value.oneCell']) (by unfold maxLen; omega) (by omega) (by simp; omega) ?_; intro v' w1 hown' hgrow _; obtain ⟨g', cap', rfl⟩ := ownsRow_succ hown'; obtain ⟨hv1, hv2, hr2, hk2, hb2⟩ := hv.appended (by decide) hrow hB.size (Nat.le_refl _) hown' hgrow; have hc1 := hv1.cell; have hf1 := hv1.frozen)
    have hN := HNE.out _ _ hown' hgrow
    exact ⟨hk2, ⟨hb2, hN⟩, ⟨⟨_, hv2, by simpa [listed] using hr2, by simp⟩, hN.trans HAA.out⟩, hB.trans hb2⟩
  case done =>
    rintro D ys W hD rfl ⟨⟨⟨v, hv, hrow, av, cv, rfl⟩, hA⟩, hB⟩ hK
    have hc := hv.cell
    have hQ1 := (hB.cell (p := ⟨Q, 0, none⟩) hQl).trans hQ0
    have hQf1 := (hB.frozen (p := ⟨Q, 0, none⟩) hQl).trans hQf
    have hQW : W.heap[Q]? = some (.cells cs t) := (hB.block Q hQl).trans hQ
    have hDQ : D ≠ Q := by simp at hD; omega
    have hK2 : (W.setCell ⟨Q, 0, none⟩ (.slice av (vals.eraseIdx at').length cv)).heap[D]? = some (.deferred (some [])) := by rw [Below.heap_setCell _ _ _ _ hDQ]; exact hK
    have hDs : w.heap.size ≤ D := by simp at hD; omega
    clear hA
    gi_wp2
    refine ⟨by simp, .inl ⟨_, _, rfl, run_takeDeferred hK2, ?_⟩⟩
    have hp : ∀ (o' : Obj) (j : Nat), j ≠ D → ((W.setCell ⟨Q, 0, none⟩ (.slice av (vals.eraseIdx at').length cv)).putObj D o').heap[j]? = (W.setCell ⟨Q, 0, none⟩ (.slice av (vals.eraseIdx at').length cv)).heap[j]? := fun o' j hj => World.putObj_heap_other hj
    refine ⟨_, results_none rfl _ _ _, rfl, .slice av (vals.eraseIdx at').length cv, ?_, ?_, ⟨_, _, rfl⟩, ?_⟩
    · rw [hp _ _ (Ne.symm hDQ)]
      simp [World.setCell, Array.getElem?_modify, hQW]
    · refine ownsRow_putObj (hrow.kept (grownBy_setCell' W Q _) ?_) _ hK2 rfl
      rcases hrow.2 with ⟨h, _⟩ | ⟨g', cap', cur', h, hg', _⟩
      · exact .inl (by rw [h]; rfl)
      · right
        rw [h]
        simp only [Value.ownBlock, ne_eq, Option.some.injEq]
        omega
    · refine ⟨hB.os, hB.tape, hB.output, ?_, fun j hj hm => ?_⟩
      · have := hB.size
        simpa [World.putObj, World.setCell] using this
      · rw [hp _ _ (by omega), Below.heap_setCell _ _ _ _ (by simpa using hm)]
        exact hB.block j hj
  case stop =>
    rintro D c pre W _ _ h _
    exact h.elim
end Go.Proofs.Ytdobileefcidjaa.M
