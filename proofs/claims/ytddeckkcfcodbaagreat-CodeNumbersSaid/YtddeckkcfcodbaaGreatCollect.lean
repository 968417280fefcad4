/-
  slices.Collect of slots: all rows, or the error.
-/
import Derived.Test.YtddeckkcfcodbaaGreatSlots
namespace Go.Proofs.YtddeckkcfcodbaaGreat.M
open Go.RowKit Go.Shelf
set_option linter.unusedVariables false
set_option linter.unusedSectionVars false
set_option linter.unusedSimpArgs false
attribute [local go_sem] Oper.semAt_some
theorem OwnQ.cells {w : World} {e : TypeId} {v : Value} {xs : List Value} (h : OwnQ w e v xs) {b : Nat} (hb : v.ownBlock = some b) : ∃ cs f, w.heap[b]? = some (.cells cs e f) := by
  obtain ⟨cur, hg⟩ := h.tag b hb
  exact ⟨_, _, hg⟩
/-- A row of one's own abides turns of blocks that hold no cells. -/
theorem OwnQ.far {w w' : World} {e : TypeId} {v : Value} {xs : List Value} {L : List Nat} (h : OwnQ w e v xs) (hb : But L w w') {B : Nat} (hL : ∀ x ∈ L, B ≤ x ∧ ∃ o, w.heap[x]? = some o ∧ o.isCells = false) : OwnQ w' e v xs :=
  h.but hb (fun b hbv hm => by
    obtain ⟨cs, f, hc⟩ := h.cells hbv
    obtain ⟨_, o, ho, hoc⟩ := hL b hm
    rw [hc] at ho
    cases ho
    cases hoc)
theorem heap_far {w w' : World} {k : Nat} {cs : Array Value} {t : TypeId} {f : Nat × Nat} {L : List Nat} (h : w.heap[k]? = some (.cells cs t f)) (hb : But L w w') {B : Nat} (hL : ∀ x ∈ L, B ≤ x ∧ ∃ o, w.heap[x]? = some o ∧ o.isCells = false) : w'.heap[k]? = some (.cells cs t f) :=
  hb.heap h (fun hm => by
    obtain ⟨_, o, ho, hoc⟩ := hL k hm
    rw [h] at ho
    cases ho
    cases hoc)
theorem has8_abides (B : Nat) : Abides B Has8 := Abides.of_but fun x V W L h hb hL => ⟨h.1.far hb hL, h.2⟩
theorem ownsRow_que {w : World} {B : Nat} {e : TypeId} {v : Value} {xs : List Value} (h : w.ownsRow B e 1 v xs.length xs) : OwnQ w e v xs := by
  rcases h.2 with ⟨rfl, hn⟩ | ⟨g, cap, cur, rfl, _, hg, hc, hm, hs, ht⟩
  · exact .inl ⟨rfl, List.eq_nil_of_length_eq_zero hn⟩
  · refine .inr ⟨g, 0, cap, cur, rfl, hg, hc, hm, by omega, fun j u hj => ?_⟩
    rw [Nat.mul_one] at ht
    rw [← ht, List.getElem?_take] at hj
    split at hj
    · rw [Nat.zero_add]; simpa using hj
    · cases hj
theorem ownsRow_but {w w' : World} {B : Nat} {e : TypeId} {sz n : Nat} {v : Value} {xs : List Value} {L : List Nat} (h : w.ownsRow B e sz v n xs) (hb : But L w w') (hn : ∀ b, v.ownBlock = some b → b ∉ L) : w'.ownsRow B e sz v n xs := by
  obtain ⟨h1, h2⟩ := h
  refine ⟨h1, ?_⟩
  rcases h2 with h2 | ⟨g, cap, cur, h3, h4, h5, h6⟩
  · exact .inl h2
  · exact .inr ⟨g, cap, cur, h3, h4, hb.heap h5 (hn g (by rw [h3]; rfl)), h6⟩
theorem ownsRow_tag {w : World} {B : Nat} {e : TypeId} {sz n : Nat} {v : Value} {xs : List Value} (h : w.ownsRow B e sz v n xs) {b : Nat} (hb : v.ownBlock = some b) : B ≤ b ∧ ∃ cur, w.heap[b]? = some (.cells cur e) := by
  rcases h.2 with ⟨h3, _⟩ | ⟨g, cap, cur, h3, h4, h5, h6⟩
  · rw [h3] at hb; cases hb
  · rw [h3] at hb; cases hb; exact ⟨h4, cur, h5⟩
theorem row_form {w : World} {B : Nat} {e : TypeId} {sz n : Nat} {v : Value} {xs : List Value} (h : w.ownsRow B e sz v n xs) : ∃ a c, v = .slice a n c := by
  rcases h.2 with ⟨h, h0⟩ | ⟨g, cap, cur, h, _⟩
  · exact ⟨none, 0, by rw [h, h0]⟩
  · exact ⟨_, _, h⟩
/-- What stands between two rounds. -/
structure ColI (w : World) (B : Nat) (pre : List Told8) (W : World) : Prop where
  box : ∃ a c, W.heap[B]? = some (.cells #[.slice a pre.length c] 42) ∧ W.ownsRow w.heap.size 22 1 (.slice a pre.length c) pre.length (pre.map Told8.v)
  all : ∀ x ∈ pre, Has8 x W
  but : But [] w W
theorem ColI.abides (w : World) (B : Nat) (hB : w.heap.size ≤ B) : Abides (B + 1) (ColI w B) := Abides.of_but fun pre V W L h hb hL => by
  obtain ⟨⟨a, c, h1, h2⟩, h3, h4⟩ := h
  refine ⟨⟨a, c, heap_far h1 hb hL, ownsRow_but h2 hb (fun b hb' hm => ?_)⟩, fun x hx => ⟨(h3 x hx).1.far hb hL, (h3 x hx).2⟩, h4.trans hb (fun x hx => .inr (by have := (hL x hx).1; omega))⟩
  obtain ⟨_, cur, hc⟩ := ownsRow_tag h2 hb'
  obtain ⟨_, o, ho, hoc⟩ := hL b hm
  rw [hc] at ho
  cases ho
  cases hoc
theorem ColI.more {w W w1 : World} {B : Nat} {pre : List Told8} {x : Told8} {a : Option Addr} {c : Nat} {v' : Value} (hB : B = w.heap.size) (hbx : W.heap[B]? = some (.cells #[.slice a pre.length c] 42)) (hrow : W.ownsRow w.heap.size 22 1 (.slice a pre.length c) pre.length (pre.map Told8.v)) (hall : ∀ y ∈ pre, Has8 y W) (hbut : But [] w W) (hx : Has8 x W)
    (hown : w1.ownsRow w.heap.size 22 1 v' (pre.length + 1) (pre.map Told8.v ++ [.slice x.a 8 x.c])) (hg : (W.alloc (.cells #[.slice x.a 8 x.c] 22)).grownBy w1 (Value.slice a pre.length c).ownBlock) :
    ∃ a' c', v' = .slice a' (pre.length + 1) c' ∧ w1.heap[B]? = some (.cells #[.slice a pre.length c] 42) ∧ KeepsOthers W (w1.setCell ⟨B, 0, none⟩ v') ∧ Below w.heap.size W (w1.setCell ⟨B, 0, none⟩ v') ∧ ColI w B (pre ++ [x]) (w1.setCell ⟨B, 0, none⟩ v') := by
  obtain ⟨a', c', e⟩ := row_form hown
  subst e
  have hb1 : But (Value.slice a pre.length c).ownBlock.toList (W.alloc (.cells #[.slice x.a 8 x.c] 22)) w1 := (But.refl _ _).grown hg (fun k hk => .inl (by rw [hk]; simp))
  have hno : ∀ b, (Value.slice a pre.length c).ownBlock = some b → b ≠ B := fun b hb e => by
    obtain ⟨_, cur, hc⟩ := ownsRow_tag hrow hb
    rw [e, hbx] at hc
    simp only [Option.some.injEq, Obj.cells.injEq] at hc
    exact absurd hc.2.1 (by decide)
  have hbx1 : w1.heap[B]? = some (.cells #[.slice a pre.length c] 42) := hb1.heap (al_keep hbx _) (fun hm => hno B (by simpa using hm) rfl)
  have hs : But [B] w1 (w1.setCell ⟨B, 0, none⟩ (.slice a' (pre.length + 1) c')) := (But.refl _ _).setCell (.inl (by simp)) _
  have hbW : But (B :: (Value.slice a pre.length c).ownBlock.toList) W (w1.setCell ⟨B, 0, none⟩ (.slice a' (pre.length + 1) c')) := ((((But.refl [] W).alloc (.cells #[.slice x.a 8 x.c] 22)).mono (M := B :: (Value.slice a pre.length c).ownBlock.toList) (by simp)).trans hb1 (fun y hy => .inl (List.mem_cons_of_mem _ hy))).trans hs (fun y hy => .inl (by simp at hy; simp [hy]))
  have hq : ∀ {y : Told8}, Has8 y W → Has8 y (w1.setCell ⟨B, 0, none⟩ (.slice a' (pre.length + 1) c')) := fun {y} hy => ⟨hy.1.but hbW (fun b hb hm => by
    obtain ⟨cs, f, hc⟩ := hy.1.cells hb
    rcases List.mem_cons.1 hm with e | hm
    · rw [e, hbx] at hc
      simp only [Option.some.injEq, Obj.cells.injEq] at hc
      exact absurd hc.2.1 (by decide)
    · obtain ⟨_, cur, hc'⟩ := ownsRow_tag hrow (b := b) (by simpa using hm)
      rw [hc'] at hc
      simp only [Option.some.injEq, Obj.cells.injEq] at hc
      exact absurd hc.2.1 (by decide)), hy.2⟩
  have hLw : ∀ y ∈ (B :: (Value.slice a pre.length c).ownBlock.toList), w.heap.size ≤ y := fun y hy => by
    rcases List.mem_cons.1 hy with e | hm
    · omega
    · exact (ownsRow_tag hrow (b := y) (by simpa using hm)).1
  refine ⟨a', c', rfl, hbx1, keepsOthers_of_but hbW (fun y hy => ?_), hbW.below hbut.size hLw, ⟨a', c', ?_, ?_⟩, ?_, hbut.trans hbW (fun y hy => .inr (hLw y hy))⟩
  · rcases List.mem_cons.1 hy with e | hm
    · subst e; exact ⟨_, _, _, hbx⟩
    · obtain ⟨_, cur, hc⟩ := ownsRow_tag hrow (b := y) (by simpa using hm)
      exact ⟨_, _, _, hc⟩
  · simp [World.setCell, Array.getElem?_modify, hbx1]
  · rw [List.length_append, List.length_singleton, List.map_append]
    refine ownsRow_but hown hs (fun b hb hm => ?_)
    simp only [List.mem_singleton] at hm
    obtain ⟨_, cur, hc⟩ := ownsRow_tag hown hb
    rw [hm, hbx1] at hc
    simp only [Option.some.injEq, Obj.cells.injEq] at hc
    exact absurd hc.2.1 (by decide)
  · intro y hy
    rcases List.mem_append.1 hy with hy | hy
    · exact hq (hall y hy)
    · simp only [List.mem_singleton] at hy
      subst hy
      exact hq hx
def ColPost (prog : List Ins) (w : World) (e : Ending) (w' : World) : Prop :=
  (∃ xs a c, e = .returned (.slice a xs.length c) ∧ SAll prog xs ∧ OwnQ w' 22 (.slice a xs.length c) (xs.map Told8.v) ∧ (∀ x ∈ xs, Has8 x w') ∧ But [] w w') ∨ ((∃ x ∈ prog, ¬ Good x) ∧ e = thrown 21 ∧ But [] w w')
set_option maxRecDepth 100000 in
set_option maxHeartbeats 4000000 in
theorem appendSeq_w (n : Nat) (hn : 8 ≤ n) (P : Nat) (s : Value) (prog : List Ins) (w : World) (hP : w.heap[P]? = some (.cells #[s] 28)) (hs : SeesI w s prog) (hok : ∀ x ∈ prog, InsOk x) (hl : prog.length ≤ 1000000) (hsn : ∀ b, s.ownBlock = some b → prog ≠ [] → b < w.heap.size) :
    CallsIn Fence.wide n Tryz.prog 39 #[.slice none 0 0, .func (.func 40) #[] #[.pointer (some ⟨P, 0, none⟩)]] w (ColPost prog w) := by
  obtain ⟨i0, hi, hz0, hz1, hz2⟩ := info_parts (show (Tryz.prog.info? 22).map (fun i => (i.zero, i.size, i.bytes)) = some (some (.slice none 0 0), 1, 24) by kernel_rfl)
  have h1 : 1 ≤ n := by omega
  refine callsIn_of_wp_marks Tryz.func39 rfl trivial ?_ rfl
  simp only [Tryz.ntmps39, List.size_toArray, List.length_cons, List.length_nil, Nat.reduceAdd, Nat.reduceSub, Array.replicate_succ, Array.replicate_zero, List.push_toArray, List.append_toArray, List.nil_append, List.cons_append]
  gi_wp2
  obtain ⟨w1, hw1⟩ : ∃ w1, w1 = w.alloc (.cells #[.slice none 0 0] 42) := ⟨_, rfl⟩
  rw [← hw1]
  have hb1 : But [] w w1 := by rw [hw1]; exact (But.refl [] w).alloc _
  have hz1' : w1.heap.size = w.heap.size + 1 := by rw [hw1, size_alloc]
  have hbox : w1.heap[w.heap.size]? = some (.cells #[.slice none 0 0] 42) := by rw [hw1]; exact al_at _ _
  have HS := Lib.hid (slots_seq (n - 1) (by omega) P w.heap.size s prog w1 (hb1.heap hP (by simp)) (hs.but hb1 (by simp)) hok (by omega) (lt_of hP) hsn (by omega))
  have HI0 : Hid (ColI w w.heap.size [] w1) := Lib.hid ⟨⟨none, 0, hbox, rfl, .inl ⟨rfl, rfl⟩⟩, by simp, hb1⟩
  clear hw1 hb1 hbox hP hs hok hsn
  refine wpIn_rangeFunc_but rfl h1 (gf := 40) (lb := #[.pointer (some ⟨P, 0, none⟩)]) rfl trivial (enters_of Tryz.func40 (by kernel_rfl) rfl) HS.out
    (fun h k => h.trans k) (fun hz hb => hb.below (by omega) (by simp)) (fun V l o o' hl hV ho => (but_putObj o' hV).below (lt_of hV |> fun h => by omega) (by simp only [List.mem_singleton]; rintro x rfl; omega)) (has8_abides _) (But.refl _ _) (fun _ => rfl)
    (ColI w w.heap.size) (fun _ _ _ => False) (hz1' ▸ ColI.abides w w.heap.size (Nat.le_refl _)) (fun _ => Abides.none _) HI0.out
    (fun x a' _ => a' = { tmps := #[.slice none 0 0, .func (.func 40) #[] #[.pointer (some ⟨P, 0, none⟩)], .pointer (some ⟨w.heap.size, 0, none⟩), undef, .slice none 0 0, .slice x.a 8 x.c, .func (.func 40) #[] #[.pointer (some ⟨P, 0, none⟩)], .slice x.a 8 x.c, undef, undef, undef, undef, undef], defers := [] })
    (fun a' => ⟨fun _ _ _ h _ => h, fun _ _ _ _ _ h _ _ _ => h⟩) ?assign ?body ?done ?stop ?throw
  case assign =>
    intro l pre x W K _ _ _ hK
    gi_wp2
    exact hK _ _ (But.refl _ _) rfl
  case body =>
    rintro l pre x a' W hx0 ⟨⟨a, c, hbx, hrow⟩, hall, hbut⟩ hx _ hlt
    subst hx0
    have hc : W.cell? ⟨w.heap.size, 0, none⟩ = some (.slice a pre.length c) := cl_of hbx 0
    have hpl : pre.length ≤ 1000000 := by omega
    have hsz := hbut.size
    have HROW : Hid ((W.alloc (.cells #[.slice x.a 8 x.c] 22)).ownsRow w.heap.size 22 1 (.slice a pre.length c) pre.length (pre.map Told8.v)) := Lib.hid (ownsRow_but hrow ((But.refl [] W).alloc _) (by simp))
    have KEY := Lib.hid (fun (v' : Value) (w1 : World) hown hg => ColI.more (v' := v') (w1 := w1) rfl hbx hrow hall hbut hx hown hg)
    clear hbx hrow hall hbut hx
    gi_wp2_with (gi_at_builtin; refine wpListIn_append_own _ rfl _ _ 42 rfl w.heap.size 22 i0 (.slice none 0 0) 1 24 Tryz.underlying42 hi hz0 hz1 hz2 rfl (by decide) _ _ _ rfl HROW.out ⟨W.heap.size, 0, none⟩ 1 1 [.slice x.a 8 x.c] rfl rfl (cell_one_new _ _ _) (by simp [Value.oneCell']) (by unfold maxLen; omega) (by omega) (by simp; omega) ?_; intro v' w2 hown hg _; go_must (have h := KEY.out v' w2 hown hg); obtain ⟨a', c', rfl, hbx2, hko, hbl, hI⟩ := h; go_must (have hc2 : w2.cell? ⟨w.heap.size, 0, none⟩ = some (.slice a pre.length c) := cl_of hbx2 0); go_must (have hf2 : w2.frozen? ⟨w.heap.size, 0, none⟩ = false := by (unfold World.frozen?; rw [hbx2]; simp)); go_must (have HRES := Lib.hid (And.intro hko (And.intro hbl hI))); clear hown hg hbx2 hko hbl hI)
    exact HRES.out
  case done =>
    rintro D ys W rfl hS ⟨⟨a, c, hbx, hrow⟩, hall, hbut⟩ hK
    have hc : W.cell? ⟨w.heap.size, 0, none⟩ = some (.slice a ys.length c) := cl_of hbx 0
    have hb2 : But [w1.heap.size] W (W.putObj w1.heap.size (.deferred none)) := but_putObj _ hK
    have hL : ∀ x ∈ [w1.heap.size], w1.heap.size ≤ x ∧ ∃ o, W.heap[x]? = some o ∧ o.isCells = false := by simp only [List.mem_singleton]; rintro x rfl; exact ⟨Nat.le_refl _, _, hK, rfl⟩
    have HEND := Lib.hid (show ColPost prog w (.returned (.slice a ys.length c)) (W.putObj w1.heap.size (.deferred none)) from .inl ⟨ys, a, c, rfl, hS, (ownsRow_que (by rw [List.length_map]; exact hrow)).far hb2 hL, fun x hx => ⟨(hall x hx).1.far hb2 hL, (hall x hx).2⟩, hbut.trans hb2 (fun x hx => .inr (by simp at hx; omega))⟩)
    clear hbx hrow hall hbut
    gi_wp2
    refine ⟨by simp, .inl ⟨_, _, rfl, run_takeDeferred hK, ?_⟩⟩
    refine ⟨_, results_tmp rfl _ _ _, ?_⟩
    exact HEND.out
  case stop =>
    rintro D c pre W _ _ h _
    exact h.elim
  case throw =>
    rintro D pre chain W rfl ⟨rfl, hbad⟩ hI hK
    have hb2 : But [w1.heap.size] W (W.putObj w1.heap.size (.deferred none)) := but_putObj _ hK
    have HEND := Lib.hid (show ColPost prog w (thrown 21) (W.putObj w1.heap.size (.deferred none)) from .inr ⟨hbad, rfl, hI.but.trans hb2 (fun x hx => .inr (by simp at hx; omega))⟩)
    clear hI
    refine ⟨by simp, .inl ⟨_, _, rfl, run_takeDeferred hK, ?_⟩⟩
    exact HEND.out
end Go.Proofs.YtddeckkcfcodbaaGreat.M
