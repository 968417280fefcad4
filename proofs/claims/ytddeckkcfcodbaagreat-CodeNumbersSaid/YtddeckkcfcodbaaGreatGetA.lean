/-
  code.Get's closure.
-/
import Derived.Test.YtddeckkcfcodbaaGreatChunk
import Derived.Test.YtddeckkcfcodbaaGreatWhole
import Derived.Test.YtddeckkcfcodbaaGreatIns
import Derived.Test.YtddeckkcfcodbaaGreatFlowIn
import Derived.Test.YtddeckkcfcodbaaGreatFlowG
import Derived.OwnWalkIn
namespace Go.Proofs.YtddeckkcfcodbaaGreat.M
open Go.RowKit Go.Shelf
set_option linter.unusedVariables false
set_option linter.unusedSectionVars false
set_option linter.unusedSimpArgs false
attribute [local go_sem] Oper.semAt_some
/-- The three parts of a slot. -/
theorem part_u8 {W : World} {b q c : Nat} {d : Nat → Int} (hc : ∀ j, j < 8 → W.cell? ⟨b, q + j, none⟩ = some (.int .u8 (d j))) (hd : ∀ j, 0 ≤ d j ∧ d j ≤ 255) :
    Calls Tryz.prog 20 #[.slice (some ⟨b, q, none⟩) 1 c] W fun e w' => e = .returned (.int .u8 (d 0)) ∧ But [] W w' := by
  have h := callsIn_wide.1 (whole_u8 (.slice (some ⟨b, q, none⟩) 1 c) [d 0] W ⟨_, c, rfl, fun i x hx => ⟨b, q, rfl, by
    match i, hx with
    | 0, hx => simp at hx; subst hx; exact hc 0 (by decide)⟩⟩ (by intro x hx; simp at hx; subst hx; exact hd 0) (by simp) (fun k hk => by cases hk; exact (show b < _ from cell_lt (hc 0 (by decide)))))
  have h0 := hd 0
  have e : IntKind.u8.wrap (leV [d 0]) = d 0 := by
    simp only [leV, List.foldr_cons, List.foldr_nil, IntKind.wrap_u8]
    omega
  rw [e] at h
  exact h
theorem part_i16 {W : World} {b q c : Nat} {d : Nat → Int} (hc : ∀ j, j < 8 → W.cell? ⟨b, q + j, none⟩ = some (.int .u8 (d j))) (hd : ∀ j, 0 ≤ d j ∧ d j ≤ 255) :
    Calls Tryz.prog 21 #[.slice (some ⟨b, q + 2, none⟩) 2 c] W fun e w' => e = .returned (.int .i16 (IntKind.i16.wrap (d 3 * 256 + d 2))) ∧ But [] W w' := by
  have h := callsIn_wide.1 (whole_i16 (.slice (some ⟨b, q + 2, none⟩) 2 c) [d 2, d 3] W ⟨_, c, rfl, fun i x hx => ⟨b, q + 2, rfl, by
    match i, hx with
    | 0, hx => simp at hx; subst hx; exact hc 2 (by decide)
    | 1, hx => simp at hx; subst hx; exact hc 3 (by decide)⟩⟩ (by intro x hx; simp at hx; rcases hx with rfl | rfl <;> exact hd _) (by simp) (fun k hk => by cases hk; exact (show b < _ from cell_lt (hc 0 (by decide)))))
  have e : leV [d 2, d 3] = d 3 * 256 + d 2 := by simp [leV]
  rw [e] at h
  exact h
theorem part_i32 {W : World} {b q c : Nat} {d : Nat → Int} (hc : ∀ j, j < 8 → W.cell? ⟨b, q + j, none⟩ = some (.int .u8 (d j))) (hd : ∀ j, 0 ≤ d j ∧ d j ≤ 255) :
    Calls Tryz.prog 22 #[.slice (some ⟨b, q + 4, none⟩) 4 c] W fun e w' => e = .returned (.int .i32 (IntKind.i32.wrap (((d 7 * 256 + d 6) * 256 + d 5) * 256 + d 4))) ∧ But [] W w' := by
  have h := callsIn_wide.1 (whole_i32 (.slice (some ⟨b, q + 4, none⟩) 4 c) [d 4, d 5, d 6, d 7] W ⟨_, c, rfl, fun i x hx => ⟨b, q + 4, rfl, by
    match i, hx with
    | 0, hx => simp at hx; subst hx; exact hc 4 (by decide)
    | 1, hx => simp at hx; subst hx; exact hc 5 (by decide)
    | 2, hx => simp at hx; subst hx; exact hc 6 (by decide)
    | 3, hx => simp at hx; subst hx; exact hc 7 (by decide)⟩⟩ (by intro x hx; simp at hx; rcases hx with rfl | rfl | rfl | rfl <;> exact hd _) (by simp) (fun k hk => by cases hk; exact (show b < _ from cell_lt (hc 0 (by decide)))))
  have e : leV [d 4, d 5, d 6, d 7] = ((d 7 * 256 + d 6) * 256 + d 5) * 256 + d 4 := by simp [leV]
  rw [e] at h
  exact h
/-- What stands between two rounds. -/
structure GetI (w : World) (B : Nat) (bs : List Int) (pre : List Nat) (W : World) : Prop where
  box : ∃ a c, W.heap[B]? = some (.cells #[.slice a pre.length c] 28) ∧ RowI (B + 3) W (.slice a pre.length c) (pre.map fun i => decI (atI bs i))
  but : But [] w W
theorem GetI.abides (w : World) (B : Nat) (bs : List Int) (hB : w.heap.size ≤ B) : Abides (B + 1) (GetI w B bs) := Abides.of_but fun pre V W L h hb hL => by
  obtain ⟨⟨a, c, h1, h2⟩, h4⟩ := h
  refine ⟨⟨a, c, heap_far h1 hb hL, h2.but hb (fun b hb' hm => ?_)⟩, h4.trans hb (fun x hx => .inr (by have := (hL x hx).1; omega))⟩
  obtain ⟨_, cur, hc⟩ := h2.tag hb'
  obtain ⟨_, o, ho, hoc⟩ := hL b hm
  rw [hc] at ho
  cases ho
  cases hoc
theorem GetI.more {w W w5 w6 : World} {B x : Nat} {bs : List Int} {pre : List Nat} {a : Option Addr} {c : Nat} {v' : Value} (hB : B = w.heap.size) (hbx : W.heap[B]? = some (.cells #[.slice a pre.length c] 28)) (hrow : RowI (B + 3) W (.slice a pre.length c) (pre.map fun i => decI (atI bs i))) (hbut : But [] w W) (hb5 : But [] W w5)
    (hown : w6.ownsRow (B + 3) 27 5 v' (pre.length + 1) ((pre.map fun i => decI (atI bs i)).flatMap Ins.cells ++ (decI (atI bs x)).cells)) (hg : w5.grownBy w6 (Value.slice a pre.length c).ownBlock) :
    ∃ a' c', v' = .slice a' (pre.length + 1) c' ∧ w6.heap[B]? = some (.cells #[.slice a pre.length c] 28) ∧ KeepsOthers W (w6.setCell ⟨B, 0, none⟩ v') ∧ KeepIn (fun b => b < B ∨ b = B + 1 ∨ b = B + 2) W (w6.setCell ⟨B, 0, none⟩ v') ∧ GetI w B bs (pre ++ [x]) (w6.setCell ⟨B, 0, none⟩ v') := by
  obtain ⟨a', c', e⟩ := row_form hown
  subst e
  have hb1 : But (Value.slice a pre.length c).ownBlock.toList w5 w6 := (But.refl _ _).grown hg (fun k hk => .inl (by rw [hk]; simp))
  have hno : ∀ b, (Value.slice a pre.length c).ownBlock = some b → b ≠ B := fun b hb e => by have := (hrow.tag hb).1; omega
  have hbx1 : w6.heap[B]? = some (.cells #[.slice a pre.length c] 28) := hb1.heap (hb5.heap hbx (by simp)) (fun hm => hno B (by simpa using hm) rfl)
  have hs : But [B] w6 (w6.setCell ⟨B, 0, none⟩ (.slice a' (pre.length + 1) c')) := (But.refl _ _).setCell (.inl (by simp)) _
  have hbW : But (B :: (Value.slice a pre.length c).ownBlock.toList) W (w6.setCell ⟨B, 0, none⟩ (.slice a' (pre.length + 1) c')) := ((hb5.mono (by simp)).trans hb1 (fun y hy => .inl (List.mem_cons_of_mem _ hy))).trans hs (fun y hy => .inl (by simp at hy; simp [hy]))
  have hLw : ∀ y ∈ (B :: (Value.slice a pre.length c).ownBlock.toList), y = B ∨ B + 3 ≤ y := fun y hy => by
    rcases List.mem_cons.1 hy with e | hm
    · exact .inl e
    · exact .inr (hrow.tag (b := y) (by simpa using hm)).1
  refine ⟨a', c', rfl, hbx1, keepsOthers_of_but hbW (fun y hy => ?_), KeepIn.of_but hbW (fun y hy => by have := hLw y hy; omega), ⟨⟨a', c', ?_, ?_⟩, hbut.trans hbW (fun y hy => .inr (by have := hLw y hy; omega))⟩⟩
  · rcases List.mem_cons.1 hy with e | hm
    · subst e; exact ⟨_, _, _, hbx⟩
    · obtain ⟨_, cur, hc⟩ := hrow.tag (b := y) (by simpa using hm)
      exact ⟨_, _, _, hc⟩
  · rw [List.length_append, List.length_singleton]
    simp [World.setCell, Array.getElem?_modify, hbx1]
  · have hr6 : RowI (B + 3) w6 (.slice a' (pre.length + 1) c') ((pre ++ [x]).map fun i => decI (atI bs i)) := by
      unfold RowI
      rw [List.map_append, List.flatMap_append, List.length_append, List.length_map]
      simpa using hown
    rw [List.length_append, List.length_singleton]
    refine hr6.but hs (fun b hb hm => ?_)
    simp only [List.mem_singleton] at hm
    have := (hr6.tag hb).1
    omega
/-- Values that are known, and of number 19 the row that it laid. -/
def GB (N : Value → World → Prop) (vals : List Value) (i : Nat) (v : Value) (w : World) : Prop := (i = 19 → N v w) ∧ GV vals i v w
def LaidN (cs : List Value) (v : Value) (w : World) : Prop := ∃ g, v = .slice (some ⟨g, 0, none⟩) 1 1 ∧ ∀ (j : Nat) (u : Value), cs[j]? = some u → w.cell? ⟨g, j, none⟩ = some u
theorem LaidN.but {cs : List Value} {v : Value} {w w' : World} (h : LaidN cs v w) (hb : But [] w w') : LaidN cs v w' := by
  obtain ⟨g, e, h⟩ := h
  exact ⟨g, e, fun j u hj => cell_but hb (h j u hj) (by simp)⟩
theorem and15F : ∀ x : Fin 256, bits BinOp.and .u8 (x.val : Int) 15 = (x.val : Int) % 16 := by decide +kernel
theorem and15 {x : Int} (h : 0 ≤ x ∧ x ≤ 255) : bits BinOp.and .u8 x 15 = x % 16 := by
  obtain ⟨m, rfl⟩ : ∃ m : Nat, x = m := ⟨x.toNat, by omega⟩
  exact and15F ⟨m, by omega⟩
theorem anyC_abides (B m : Nat) : Abides B (AnyC m) := ⟨fun _ _ _ h _ => h, fun _ _ _ _ _ h _ _ _ => h⟩
/-- Behind Get's closure. -/
def Get1Post (bs : List Int) (w : World) (e : Ending) (w' : World) : Prop :=
  (getErr bs.length = 0 ∧ ∃ a n c, e = .returned (.slice a n c) ∧ RowI w.heap.size w' (.slice a n c) (getRow bs) ∧ But [] w w') ∨ (getErr bs.length ≠ 0 ∧ e = thrown (getErr bs.length) ∧ But [] w w')
set_option maxRecDepth 100000 in
set_option maxHeartbeats 4000000 in
theorem get1_ok (P m : Nat) (a : Option Addr) (c : Nat) (bs : List Int) (w : World) (hP : w.heap[P]? = some (.cells #[.slice a bs.length c] 22)) (hs : SeesD w a c bs) (hr : ByteL bs) (hm : bs.length = 8 * m) (hm2 : m ≤ 4096) :
    CallsIn Fence.wide 9 Tryz.prog 17 #[.pointer (some ⟨P, 0, none⟩)] w (Get1Post bs w) := by
  obtain ⟨i0, hi, hz0, hz1, hz2⟩ := info_parts (show (Tryz.prog.info? 27).map (fun i => (i.zero, i.size, i.bytes)) = some (some (.agg #[.int .u8 0, .int .u8 0, .int .u8 0, .int .i16 0, .int .i32 0]), 5, 12) by kernel_rfl)
  have c0 : w.cell? ⟨P, 0, none⟩ = some (.slice a bs.length c) := cl_of hP 0
  rw [hm] at c0
  obtain ⟨w1, hw1⟩ : ∃ w1, w1 = w.alloc (.cells #[.slice none 0 0] 28) := ⟨_, rfl⟩
  have hb1 : But [] w w1 := by rw [hw1]; exact (But.refl [] w).alloc _
  have hz1' : w1.heap.size = w.heap.size + 1 := by rw [hw1, size_alloc]
  have hbox : w1.heap[w.heap.size]? = some (.cells #[.slice none 0 0] 28) := by rw [hw1]; exact al_at _ _
  have C1 := Lib.hid (cell_but hb1 c0 (by simp))
  have HW := Lib.hid hw1
  obtain ⟨w2, hw2⟩ : ∃ w2, w2 = (w1.alloc (.cells #[.slice a bs.length c] 22)).alloc (.cells #[.int .i64 8] 3) := ⟨_, rfl⟩
  have hb2 : But [] w1 w2 := by rw [hw2]; exact ((But.refl [] w1).alloc _).alloc _
  have hz2' : w2.heap.size = w.heap.size + 3 := by rw [hw2, size_alloc, size_alloc, hz1']
  have g1 : w2.heap[w.heap.size + 1]? = some (.cells #[.slice a bs.length c] 22) := by rw [hw2, ← hz1']; exact al_keep (al_at w1 _) _
  have g2 : w2.heap[w.heap.size + 1 + 1]? = some (.cells #[.int .i64 8] 3) := by rw [hw2]; exact al_eq _ _ _ (by rw [size_alloc, hz1'])
  have HSQ := Lib.hid (chunk_seq 8 (by omega) (w.heap.size + 1) (w.heap.size + 1 + 1) m (fun b => b < w.heap.size ∨ b = w.heap.size + 1 ∨ b = w.heap.size + 2) a c bs w2 g1 g2 ((hs.but hb1 (by simp)).but hb2 (by simp)) (by omega) hm (.inr (.inl rfl)) (.inr (.inr rfl)))
  have HI0 : Hid (GetI w w.heap.size bs [] w2) := Lib.hid ⟨⟨none, 0, hb2.heap hbox (by simp), RowI.nil _ _⟩, hb1.trans hb2 (by simp)⟩
  have HSD := Lib.hid hs
  have HBY := Lib.hid hr
  have HM := Lib.hid hm
  have HZ := Lib.hid hz2'
  rw [hm] at hw2
  have HW2 := Lib.hid hw2
  have HS1 := Lib.hid hz1'
  have hl : (8 * (m : Int)) ≤ 32768 := by omega
  have hl0 : (0 : Int) ≤ 8 * (m : Int) := by omega
  have hrem : (8 * (m : Int)).tmod 8 = 0 := by rw [Int.tmod_eq_emod_of_nonneg hl0]; omega
  have h1 : 1 ≤ 9 := by decide
  have c1 := C1.out
  rw [HW.out] at c1
  clear hP hs hr hm hw1 hb1 hz1' hbox hw2 hb2 hz2' g1 g2
  refine callsIn_of_wp_marks Tryz.func17 rfl trivial ?_ rfl
  simp only [Tryz.ntmps17, List.size_toArray, List.length_cons, List.length_nil, Nat.reduceAdd, Nat.reduceSub, Array.replicate_succ, Array.replicate_zero, List.push_toArray, List.append_toArray, List.nil_append, List.cons_append]
  gi_wp2
  refine ⟨trivial, ?_⟩
  refine (callsIn_wide.2 (must_yes 3 _)).mono ?_
  rintro e w3 ⟨rfl, rfl⟩
  gi_wp2
  refine ⟨trivial, ?_⟩
  refine (callsIn_wide.2 (must_yes 4 _)).mono ?_
  rintro e w3 ⟨rfl, rfl⟩
  gi_wp2
  rw [← HW.out]
  refine ⟨trivial, ?_⟩
  refine (callsIn_wide.2 (chunk_c _ _ _ _)).mono ?_
  rintro e w3 ⟨rfl, rfl⟩
  rw [HS1.out]
  gi_wp2
  rw [← HW2.out]
  refine wpIn_rangeFunc_but rfl h1 (gf := 35) (lb := #[.pointer (some ⟨w.heap.size + 1, 0, none⟩), .pointer (some ⟨w.heap.size + 1 + 1, 0, none⟩)]) rfl trivial (enters_of Tryz.func35 (by kernel_rfl) rfl) HSQ.out
    (fun h k => h.trans k) (fun hz hb => KeepIn.of_but hb (by simp)) (fun V l o o' hl hV ho => KeepIn.of_but (but_putObj o' hV) (by have := HZ.out; simp only [List.mem_singleton]; rintro x rfl h; omega)) (anyC_abides _ _) (But.refl _ _) (fun _ => rfl)
    (GetI w w.heap.size bs) (fun _ _ _ => False) ((GetI.abides w w.heap.size bs (Nat.le_refl _)).mono (by have := HZ.out; omega)) (fun _ => Abides.none _) HI0.out
    (fun x a' _ => ∃ V, encC a x = #[V] ∧ a' = { tmps := #[.pointer (some ⟨P, 0, none⟩), .slice none 0 0, .pointer (some ⟨w.heap.size, 0, none⟩), V, .slice a (8 * m) c, .int .i64 (8 * (m : Int)), .bool true, .tuple #[], .slice a (8 * m) c, .int .i64 (8 * (m : Int)), .int .i64 0, .bool true, .tuple #[], .slice a (8 * m) c, .func (.func 35) #[] #[.pointer (some ⟨w.heap.size + 1, 0, none⟩), .pointer (some ⟨w.heap.size + 1 + 1, 0, none⟩)], V, undef, undef, undef, undef, undef, undef, undef, undef, undef, undef, undef, undef, undef, undef, undef, undef, undef, undef, undef, undef, undef, undef], defers := [] })
    (fun a' => ⟨fun _ _ _ h _ => h, fun _ _ _ _ _ h _ _ _ => h⟩) ?assign ?body ?done ?stop ?throw
  case assign =>
    intro l pre x W K _ _ _ hK
    simp only [encC]
    gi_wp2
    exact hK _ _ (But.refl _ _) ⟨_, rfl, rfl⟩
  case body =>
    rintro l pre x a' W ⟨V, hV, hx0⟩ hI hx hlt hplen
    subst hx0
    obtain ⟨⟨ao, co, hbx, hrow⟩, hbut⟩ := hI
    have hx1 : x < m := hx
    have hA0 : ∃ b o, a = some ⟨b, o, none⟩ := by
      obtain ⟨y, hy⟩ : ∃ y, bs[0]? = some y := ⟨_, List.getElem?_eq_getElem (by have := HM.out; omega)⟩
      obtain ⟨b, o, e, _⟩ := HSD.out.2 0 y hy
      exact ⟨b, o, e⟩
    obtain ⟨b, o, hab⟩ := hA0
    have h8 : ∀ j, j < 8 → W.cell? ⟨b, o + 8 * x + j, none⟩ = some (.int .u8 (atI bs x j)) := fun j hj => by
      obtain ⟨y, hy⟩ : ∃ y, bs[8 * x + j]? = some y := ⟨_, List.getElem?_eq_getElem (by have := HM.out; omega)⟩
      obtain ⟨b2, o2, e, hc⟩ := HSD.out.2 _ y hy
      rw [hab] at e
      simp only [Option.some.injEq, Addr.mk.injEq, and_true] at e
      obtain ⟨rfl, rfl⟩ := e
      have h := cell_but hbut hc (by simp)
      rw [← Nat.add_assoc] at h
      rw [h]
      unfold atI
      rw [List.getD_eq_getElem?_getD, hy]
      rfl
    obtain ⟨q, hq⟩ : ∃ q, q = o + 8 * x := ⟨_, rfl⟩
    obtain ⟨d, hd⟩ : ∃ d, d = atI bs x := ⟨_, rfl⟩
    rw [← hq, ← hd] at h8
    unfold encC at hV
    rw [hab] at hV
    simp only [Option.map_some] at hV
    rw [← hq] at hV
    cases hV
    obtain ⟨a0, ha0⟩ : ∃ a0, a0 = a := ⟨_, rfl⟩
    rw [← ha0]
    have hdec : (decI (atI bs x)).cells = [.int .u8 (d 0), .int .u8 (d 1 % 16), .int .u8 (d 1 / 16), .int .i16 (IntKind.i16.wrap (d 3 * 256 + d 2)), .int .i32 (IntKind.i32.wrap (((d 7 * 256 + d 6) * 256 + d 5) * 256 + d 4))] := by rw [← hd]; rfl
    have HD : Hid (∀ j, 0 ≤ d j ∧ d j ≤ 255) := Lib.hid (by rw [hd]; exact atI_byte HBY.out x)
    have H8 := Lib.hid h8
    have HC : Hid (W.cell? ⟨w.heap.size, 0, none⟩ = some (.slice ao pre.length co)) := Lib.hid (cl_of hbx 0)
    have hpl : pre.length ≤ 4096 := by omega
    have HDEC := Lib.hid hdec
    have HSW := Lib.hid hbut.size
    have HLT := Lib.hid hlt
    have HROW := Lib.hid hrow
    have KEY := Lib.hid (fun (w5 w6 : World) (v' : Value) hb5 hown hg => GetI.more (x := x) (v' := v') (w5 := w5) (w6 := w6) rfl hbx hrow hbut hb5 hown hg)
    clear hbx hrow hbut hx hx1 h8 hq hd ha0 hdec hplen hlt
    gi_wp2
    refine wpIn_region_flow (by kernel_rfl) 20 (by decide) (by kernel_rfl) (But []) (fun _ _ _ h1 h2 => h1.trans h2 (by simp)) (⟨rfl, rfl, rfl, Nat.le_refl _, fun _ _ _ => rfl⟩) (GB (LaidN [.int .u8 (d 0), .int .u8 (d 1 % 16), .int .u8 (d 1 / 16), .int .i16 (IntKind.i16.wrap (d 3 * 256 + d 2)), .int .i32 (IntKind.i32.wrap (((d 7 * 256 + d 6) * 256 + d 5) * 256 + d 4))]) [.slice ao pre.length co, .slice (some ⟨b, q, none⟩) 8 8, .slice (some ⟨b, q, none⟩) 1 8, .int .u8 (d 0), .slice (some ⟨b, q, none⟩) 8 8, .pointer (some ⟨b, q + 1, none⟩), .int .u8 (d 1), .int .u8 (d 1 % 16), .slice (some ⟨b, q, none⟩) 8 8, .pointer (some ⟨b, q + 1, none⟩), .int .u8 (d 1), .int .u8 (d 1 / 16), .slice (some ⟨b, q, none⟩) 8 8, .slice (some ⟨b, q + 2, none⟩) 2 6, .int .i16 (IntKind.i16.wrap (d 3 * 256 + d 2)), .slice (some ⟨b, q, none⟩) 8 8, .slice (some ⟨b, q + 4, none⟩) 4 4, .int .i32 (IntKind.i32.wrap (((d 7 * 256 + d 6) * 256 + d 5) * 256 + d 4)), .agg #[.int .u8 (d 0), .int .u8 (d 1 % 16), .int .u8 (d 1 / 16), .int .i16 (IntKind.i16.wrap (d 3 * 256 + d 2)), .int .i32 (IntKind.i32.wrap (((d 7 * 256 + d 6) * 256 + d 5) * 256 + d 4))]]) [[], [], [(1, 17)], [(2, 18)], [], [(4, 20)], [(5, 21)], [(6, 22)], [], [(8, 24)], [(9, 25)], [(10, 26)], [], [(12, 28)], [(13, 29)], [], [(15, 31)], [(16, 32)], [(3, 19), (7, 23), (11, 27), (14, 30), (17, 33)], [(18, 34)]] [[(2, .pointer (some ⟨w.heap.size, 0, none⟩))], [(3, .slice (some ⟨b, q, none⟩) 8 8)], [], [], [(3, .slice (some ⟨b, q, none⟩) 8 8)], [], [], [], [(3, .slice (some ⟨b, q, none⟩) 8 8)], [], [], [], [(3, .slice (some ⟨b, q, none⟩) 8 8)], [], [], [(3, .slice (some ⟨b, q, none⟩) 8 8)], [], [], [], []] (by kernel_rfl) (by kernel_rfl) (by kernel_rfl) (by kernel_rfl) ?_ (fun _ _ _ _ _ h hb => ⟨fun e => (h.1 e).but hb, h.2⟩) ?_ ?_
    · exact ⟨⟨rfl, trivial⟩, ⟨rfl, trivial⟩, trivial, trivial, ⟨rfl, trivial⟩, trivial, trivial, trivial, ⟨rfl, trivial⟩, trivial, trivial, trivial, ⟨rfl, trivial⟩, trivial, trivial, ⟨rfl, trivial⟩, trivial, trivial, trivial, trivial, trivial⟩
    · simp only [List.take_succ_cons, List.take_zero]
      -- 16
      refine ⟨fun a9 w9 hR hk hf => ?_, ?_⟩
      · simp only [KnowF, FreeF, and_true] at hk hf
        have e2 : a9.tmps[2]?.getD undef = .pointer (some ⟨w.heap.size, 0, none⟩) := freeF_ev hf
        have f0 := cell_but hR HC.out (by simp)
        exact flow_run (v := .slice ao pre.length co) (by go_simp) (But.refl _ _) ⟨fun h => absurd h (by decide), GV.of rfl⟩
      -- 17
      refine ⟨fun a9 w9 hR hk hf => ?_, ?_⟩
      · simp only [KnowF, FreeF, and_true] at hk hf
        have e3 : a9.tmps[3]?.getD undef = .slice (some ⟨b, q, none⟩) 8 8 := freeF_ev hf
        exact flow_run (v := .slice (some ⟨b, q, none⟩) 8 8) (by go_simp) (But.refl _ _) (⟨fun h => absurd h (by decide), GV.of rfl⟩)
      -- 18
      refine ⟨fun a9 w9 hR hk hf => ?_, ?_⟩
      · simp only [KnowF, FreeF, and_true] at hk hf
        have e17 := (hk).2.ev (v := .slice (some ⟨b, q, none⟩) 8 8) rfl
        exact flow_run (v := .slice (some ⟨b, q, none⟩) 1 8) (by go_simp) (But.refl _ _) (⟨fun h => absurd h (by decide), GV.of rfl⟩)
      -- 19
      refine ⟨fun a9 w9 hR hk hf => ?_, ?_⟩
      · simp only [KnowF, FreeF, and_true] at hk hf
        have e18 := (hk).2.ev (v := .slice (some ⟨b, q, none⟩) 1 8) rfl
        exact flow_call (f := 20) (args := #[.slice (some ⟨b, q, none⟩) 1 8]) (by go_simp) ((part_u8 (d := d) (fun j hj => cell_but hR (H8.out j hj) (by simp)) HD.out).mono (by rintro e w' ⟨rfl, hb⟩; exact ⟨_, rfl, hb, ⟨fun h => absurd h (by decide), GV.of rfl⟩⟩))
      -- 20
      refine ⟨fun a9 w9 hR hk hf => ?_, ?_⟩
      · simp only [KnowF, FreeF, and_true] at hk hf
        have e3 : a9.tmps[3]?.getD undef = .slice (some ⟨b, q, none⟩) 8 8 := freeF_ev hf
        exact flow_run (v := .slice (some ⟨b, q, none⟩) 8 8) (by go_simp) (But.refl _ _) (⟨fun h => absurd h (by decide), GV.of rfl⟩)
      -- 21
      refine ⟨fun a9 w9 hR hk hf => ?_, ?_⟩
      · simp only [KnowF, FreeF, and_true] at hk hf
        have e20 := (hk).2.ev (v := .slice (some ⟨b, q, none⟩) 8 8) rfl
        exact flow_run (v := .pointer (some ⟨b, q + 1, none⟩)) (by go_simp) (But.refl _ _) (⟨fun h => absurd h (by decide), GV.of rfl⟩)
      -- 22
      refine ⟨fun a9 w9 hR hk hf => ?_, ?_⟩
      · simp only [KnowF, FreeF, and_true] at hk hf
        have e21 := (hk).2.ev (v := .pointer (some ⟨b, q + 1, none⟩)) rfl
        have f1 := cell_but hR (H8.out 1 (by decide)) (by simp)
        exact flow_run (v := .int .u8 (d 1)) (by go_simp) (But.refl _ _) ⟨fun h => absurd h (by decide), GV.of rfl⟩
      -- 23
      refine ⟨fun a9 w9 hR hk hf => ?_, ?_⟩
      · simp only [KnowF, FreeF, and_true] at hk hf
        have e22 := (hk).2.ev (v := .int .u8 (d 1)) rfl
        have ha := and15 (HD.out 1)
        exact flow_run (v := .int .u8 (d 1 % 16)) (by go_simp) (But.refl _ _) ⟨fun h => absurd h (by decide), GV.of rfl⟩
      -- 24
      refine ⟨fun a9 w9 hR hk hf => ?_, ?_⟩
      · simp only [KnowF, FreeF, and_true] at hk hf
        have e3 : a9.tmps[3]?.getD undef = .slice (some ⟨b, q, none⟩) 8 8 := freeF_ev hf
        exact flow_run (v := .slice (some ⟨b, q, none⟩) 8 8) (by go_simp) (But.refl _ _) (⟨fun h => absurd h (by decide), GV.of rfl⟩)
      -- 25
      refine ⟨fun a9 w9 hR hk hf => ?_, ?_⟩
      · simp only [KnowF, FreeF, and_true] at hk hf
        have e24 := (hk).2.ev (v := .slice (some ⟨b, q, none⟩) 8 8) rfl
        exact flow_run (v := .pointer (some ⟨b, q + 1, none⟩)) (by go_simp) (But.refl _ _) (⟨fun h => absurd h (by decide), GV.of rfl⟩)
      -- 26
      refine ⟨fun a9 w9 hR hk hf => ?_, ?_⟩
      · simp only [KnowF, FreeF, and_true] at hk hf
        have e25 := (hk).2.ev (v := .pointer (some ⟨b, q + 1, none⟩)) rfl
        have f1 := cell_but hR (H8.out 1 (by decide)) (by simp)
        exact flow_run (v := .int .u8 (d 1)) (by go_simp) (But.refl _ _) ⟨fun h => absurd h (by decide), GV.of rfl⟩
      -- 27
      refine ⟨fun a9 w9 hR hk hf => ?_, ?_⟩
      · simp only [KnowF, FreeF, and_true] at hk hf
        have e26 := (hk).2.ev (v := .int .u8 (d 1)) rfl
        have h1 := HD.out 1
        exact flow_run (v := .int .u8 (d 1 / 16)) (by go_simp) (But.refl _ _) ⟨fun h => absurd h (by decide), GV.of rfl⟩
      -- 28
      refine ⟨fun a9 w9 hR hk hf => ?_, ?_⟩
      · simp only [KnowF, FreeF, and_true] at hk hf
        have e3 : a9.tmps[3]?.getD undef = .slice (some ⟨b, q, none⟩) 8 8 := freeF_ev hf
        exact flow_run (v := .slice (some ⟨b, q, none⟩) 8 8) (by go_simp) (But.refl _ _) (⟨fun h => absurd h (by decide), GV.of rfl⟩)
      -- 29
      refine ⟨fun a9 w9 hR hk hf => ?_, ?_⟩
      · simp only [KnowF, FreeF, and_true] at hk hf
        have e28 := (hk).2.ev (v := .slice (some ⟨b, q, none⟩) 8 8) rfl
        exact flow_run (v := .slice (some ⟨b, q + 2, none⟩) 2 6) (by go_simp) (But.refl _ _) (⟨fun h => absurd h (by decide), GV.of rfl⟩)
      -- 30
      refine ⟨fun a9 w9 hR hk hf => ?_, ?_⟩
      · simp only [KnowF, FreeF, and_true] at hk hf
        have e29 := (hk).2.ev (v := .slice (some ⟨b, q + 2, none⟩) 2 6) rfl
        exact flow_call (f := 21) (args := #[.slice (some ⟨b, q + 2, none⟩) 2 6]) (by go_simp) ((part_i16 (d := d) (fun j hj => cell_but hR (H8.out j hj) (by simp)) HD.out).mono (by rintro e w' ⟨rfl, hb⟩; exact ⟨_, rfl, hb, ⟨fun h => absurd h (by decide), GV.of rfl⟩⟩))
      -- 31
      refine ⟨fun a9 w9 hR hk hf => ?_, ?_⟩
      · simp only [KnowF, FreeF, and_true] at hk hf
        have e3 : a9.tmps[3]?.getD undef = .slice (some ⟨b, q, none⟩) 8 8 := freeF_ev hf
        exact flow_run (v := .slice (some ⟨b, q, none⟩) 8 8) (by go_simp) (But.refl _ _) (⟨fun h => absurd h (by decide), GV.of rfl⟩)
      -- 32
      refine ⟨fun a9 w9 hR hk hf => ?_, ?_⟩
      · simp only [KnowF, FreeF, and_true] at hk hf
        have e31 := (hk).2.ev (v := .slice (some ⟨b, q, none⟩) 8 8) rfl
        exact flow_run (v := .slice (some ⟨b, q + 4, none⟩) 4 4) (by go_simp) (But.refl _ _) (⟨fun h => absurd h (by decide), GV.of rfl⟩)
      -- 33
      refine ⟨fun a9 w9 hR hk hf => ?_, ?_⟩
      · simp only [KnowF, FreeF, and_true] at hk hf
        have e32 := (hk).2.ev (v := .slice (some ⟨b, q + 4, none⟩) 4 4) rfl
        exact flow_call (f := 22) (args := #[.slice (some ⟨b, q + 4, none⟩) 4 4]) (by go_simp) ((part_i32 (d := d) (fun j hj => cell_but hR (H8.out j hj) (by simp)) HD.out).mono (by rintro e w' ⟨rfl, hb⟩; exact ⟨_, rfl, hb, ⟨fun h => absurd h (by decide), GV.of rfl⟩⟩))
      -- 34
      refine ⟨fun a9 w9 hR hk hf => ?_, ?_⟩
      · simp only [KnowF, FreeF, and_true] at hk hf
        have e19 := (hk.1).2.ev (v := .int .u8 (d 0)) rfl
        have e23 := (hk.2.1).2.ev (v := .int .u8 (d 1 % 16)) rfl
        have e27 := (hk.2.2.1).2.ev (v := .int .u8 (d 1 / 16)) rfl
        have e30 := (hk.2.2.2.1).2.ev (v := .int .i16 (IntKind.i16.wrap (d 3 * 256 + d 2))) rfl
        have e33 := (hk.2.2.2.2).2.ev (v := .int .i32 (IntKind.i32.wrap (((d 7 * 256 + d 6) * 256 + d 5) * 256 + d 4))) rfl
        exact flow_run (v := .agg #[.int .u8 (d 0), .int .u8 (d 1 % 16), .int .u8 (d 1 / 16), .int .i16 (IntKind.i16.wrap (d 3 * 256 + d 2)), .int .i32 (IntKind.i32.wrap (((d 7 * 256 + d 6) * 256 + d 5) * 256 + d 4))]) (by go_simp) (But.refl _ _) (⟨fun h => absurd h (by decide), GV.of rfl⟩)
      -- 35
      refine ⟨fun a9 w9 hR hk hf => ?_, ?_⟩
      · simp only [KnowF, FreeF, and_true] at hk hf
        have e34 := (hk).2.ev (v := .agg #[.int .u8 (d 0), .int .u8 (d 1 % 16), .int .u8 (d 1 / 16), .int .i16 (IntKind.i16.wrap (d 3 * 256 + d 2)), .int .i32 (IntKind.i32.wrap (((d 7 * 256 + d 6) * 256 + d 5) * 256 + d 4))]) rfl
        exact flow_run (v := .slice (some ⟨w9.heap.size, 0, none⟩) 1 1) (w' := w9.alloc (.cells #[.int .u8 (d 0), .int .u8 (d 1 % 16), .int .u8 (d 1 / 16), .int .i16 (IntKind.i16.wrap (d 3 * 256 + d 2)), .int .i32 (IntKind.i32.wrap (((d 7 * 256 + d 6) * 256 + d 5) * 256 + d 4))] 27)) (by go_simp) ((But.refl [] w9).alloc _) ⟨fun _ => ⟨w9.heap.size, rfl, fun j u hj => by rw [cl_of (al_at _ _)]; simpa using hj⟩, fun u hu => by simp at hu⟩
      exact trivial
    · intro f w5 hb5 hG
      have e16 : f 16 = .slice ao pre.length co := (hG 0 _ 16 (by decide) rfl rfl).2 _ rfl
      obtain ⟨g, e35, hgc⟩ := (hG 19 _ 35 (by decide) rfl rfl).1 rfl
      have HR5 := Lib.hid (HROW.out.but hb5 (by simp))
      have HGC := Lib.hid hgc
      have HB5 := Lib.hid hb5
      have hz5 : w.heap.size + 3 ≤ w5.heap.size := by have h1 := HLT.out; have h2 := hb5.size; have h3 := HZ.out; omega
      have HZ5 := Lib.hid hz5
      clear hG hb5 hgc hz5
      simp only [List.drop_succ_cons, List.drop_zero]
      show wpListIn _ _ _ _ _ _ { tmps := List.toArray (.pointer (some ⟨P, 0, none⟩) :: .slice none 0 0 :: .pointer (some ⟨w.heap.size, 0, none⟩) :: .slice (some ⟨b, q, none⟩) 8 8 :: .slice a0 (8 * m) c :: .int .i64 (8 * (m : Int)) :: .bool true :: .tuple #[] :: .slice a0 (8 * m) c :: .int .i64 (8 * (m : Int)) :: .int .i64 0 :: .bool true :: .tuple #[] :: .slice a0 (8 * m) c :: .func (.func 35) #[] #[.pointer (some ⟨w.heap.size + 1, 0, none⟩), .pointer (some ⟨w.heap.size + 1 + 1, 0, none⟩)] :: .slice (some ⟨b, q, none⟩) 8 8 :: f 16 :: f 17 :: f 18 :: f 19 :: f 20 :: f 21 :: f 22 :: f 23 :: f 24 :: f 25 :: f 26 :: f 27 :: f 28 :: f 29 :: f 30 :: f 31 :: f 32 :: f 33 :: f 34 :: f 35 :: undef :: undef :: []), defers := [] } w5
      gi_wp2_with (gi_at_builtin; refine wpListIn_append_own _ rfl _ _ 28 rfl (w.heap.size + 3) 27 i0 (.agg #[.int .u8 0, .int .u8 0, .int .u8 0, .int .i16 0, .int .i32 0]) 5 12 Tryz.underlying28 hi hz0 hz1 hz2 rfl (by decide) (.slice ao pre.length co) pre.length _ (by exact e16) (by have h := HR5.out; unfold RowI at h; rw [List.length_map] at h; exact h) ⟨g, 0, none⟩ 1 1 [.int .u8 (d 0), .int .u8 (d 1 % 16), .int .u8 (d 1 / 16), .int .i16 (IntKind.i16.wrap (d 3 * 256 + d 2)), .int .i32 (IntKind.i32.wrap (((d 7 * 256 + d 6) * 256 + d 5) * 256 + d 4))] (by exact e35) rfl (fun j u hj => by rw [add_at, Nat.zero_add]; exact HGC.out j u hj) (by intro u hu; simp only [List.mem_cons, List.not_mem_nil, or_false] at hu; rcases hu with rfl | rfl | rfl | rfl | rfl <;> rfl) (by unfold maxLen; omega) (by omega) HZ5.out ?_; intro v' w6 hown hg _; go_must (have h := KEY.out w5 w6 v' HB5.out (by rw [HDEC.out]; exact hown) hg); obtain ⟨a', c', rfl, hbx2, hko, hbl, hI⟩ := h; go_must (have hc2 : w6.cell? ⟨w.heap.size, 0, none⟩ = some (.slice ao pre.length co) := cl_of hbx2 0); go_must (have hf2 : w6.frozen? ⟨w.heap.size, 0, none⟩ = false := by (unfold World.frozen?; rw [hbx2]; simp)); go_must (have HRES := Lib.hid (And.intro hko (And.intro hbl hI))); clear hown hg hbx2 hko hbl hI)
      exact HRES.out
  case done =>
    rintro Dd ys W rfl hS ⟨⟨ao, co, hbx, hrow⟩, hbut⟩ hK
    have hc : W.cell? ⟨w.heap.size, 0, none⟩ = some (.slice ao ys.length co) := cl_of hbx 0
    have hb2 : But [w2.heap.size] W (W.putObj w2.heap.size (.deferred none)) := but_putObj _ hK
    have hS2 : ys = List.range m := hS
    have herr : getErr bs.length = 0 := by have := HM.out; unfold getErr; rw [if_neg (by omega), if_pos (by omega)]
    have h0 : getRow bs = ys.map fun i => decI (atI bs i) := by
      have := HM.out
      unfold getRow
      rw [if_pos herr]
      unfold decL
      rw [hS2, show bs.length / 8 = m by omega]
    have hrow2 : RowI w.heap.size (W.putObj w2.heap.size (.deferred none)) (.slice ao ys.length co) (getRow bs) := by
      rw [h0]
      refine (hrow.mono (C := w.heap.size) (by omega)).but hb2 (fun b hb hm => ?_)
      obtain ⟨_, cur, hcc⟩ := hrow.tag hb
      simp only [List.mem_singleton] at hm
      rw [hm, hK] at hcc
      cases hcc
    have HEND := Lib.hid (show Get1Post bs w (.returned (.slice ao ys.length co)) (W.putObj w2.heap.size (.deferred none)) from .inl ⟨herr, ao, ys.length, co, rfl, hrow2, hbut.trans hb2 (fun x hx => .inr (by have := HZ.out; simp at hx; omega))⟩)
    clear hbx hrow hbut hS hS2
    gi_wp2
    refine ⟨by simp, .inl ⟨_, _, rfl, run_takeDeferred hK, ?_⟩⟩
    refine ⟨_, results_tmp rfl _ _ _, ?_⟩
    exact HEND.out
  case stop =>
    rintro Dd c pre W _ _ h _
    exact h.elim
  case throw =>
    rintro Dd pre chain W _ h _ _
    exact h.elim
end Go.Proofs.YtddeckkcfcodbaaGreat.M
