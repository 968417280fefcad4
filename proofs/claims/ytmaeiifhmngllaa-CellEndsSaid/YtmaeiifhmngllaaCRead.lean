/-
  cell's read: bytes, if all are set.
-/
import Derived.Test.YtmaeiifhmngllaaCReadA
import Derived.Test.YtmaeiifhmngllaaCWrite
namespace Go.Proofs.Ytmaeiifhmngllaa.M
open Go.RowKit Go.Shelf
set_option linter.unusedVariables false
set_option linter.unusedSectionVars false
set_option linter.unusedSimpArgs false
attribute [local go_sem] Oper.semAt_some
theorem res_cells2 {P : Program} {fn : Func} {p q : Tmp} {ty tz : TypeId} {tmps : Array Value} {a b : Addr} {v z : Value} {w : World} (h : fn.results = #[.cell p ty, .cell q tz]) (hp : tmps.getD p undef = .pointer (some a)) (hq : tmps.getD q undef = .pointer (some b)) (hagg : (isAgg ty).run P w = .ok false w) (hagz : (isAgg tz).run P w = .ok false w) (hc : w.cell? a = some v) (hd : w.cell? b = some z) :
    (results fn tmps).run P w = .ok (.tuple #[v, z]) w := by
  rw [Array.getD_eq_getD_getElem?] at hp hq
  simp only [results, h]
  simp [Sem.run_bind, Result.andThen, hp, hq, asAddr, loadVar, hagg, hagz, hc, hd]
/-- Part j is set. -/
def okP (S : Stk) (o n j : Nat) : Prop := bits .and .u8 (S.set ((o + atP o j) / 8)) (maskI (frP o j) (mnP o n j)) = maskI (frP o j) (mnP o n j)
def partOf (S : Stk) (o n j : Nat) : List Int := (List.range (mnP o n j)).map fun i => S.byte (o + atP o j + i)
def rowP (S : Stk) (o n : Nat) (pre : List Nat) : List Int := pre.flatMap (partOf S o n)
theorem rowP_more (S : Stk) (o n : Nat) (pre : List Nat) (x : Nat) : rowP S o n (pre ++ [x]) = rowP S o n pre ++ partOf S o n x := by simp [rowP]
theorem partOf_len (S : Stk) (o n j : Nat) : (partOf S o n j).length = mnP o n j := by simp [partOf]
theorem rowP_len (S : Stk) (o n : Nat) : ∀ pre : List Nat, (rowP S o n pre).length ≤ 8 * pre.length
  | [] => by simp [rowP]
  | x :: pre => by
    have ih := rowP_len S o n pre
    have hm : mnP o n x ≤ 8 := by unfold mnP; omega
    have : rowP S o n (x :: pre) = partOf S o n x ++ rowP S o n pre := by simp [rowP]
    rw [this, List.length_append, partOf_len, List.length_cons]
    omega
theorem cnt_le {o n : Nat} (h : o + n ≤ 512) : cntP o n ≤ 65 := by
  unfold cntP
  split <;> omega
/-- What stands between two rounds. -/
structure RdI (w : World) (P : Nat) (S : Stk) (made : Bool) (o n : Nat) (pre : List Nat) (W : World) : Prop where
  out : ∃ a c, W.heap[w.heap.size + 3]? = some (.cells #[.slice a (rowP S o n pre).length c] 37) ∧ W.ownsRow (w.heap.size + 2) 5 1 (.slice a (rowP S o n pre).length c) (rowP S o n pre).length (u8s (rowP S o n pre))
  ok : ∀ j ∈ pre, okP S o n j
  r0 : W.heap[w.heap.size]? = some (.cells #[.slice none 0 0] 37)
  r1 : W.heap[w.heap.size + 1]? = some (.cells #[.int .i64 0] 41)
  but : But [] w W
/-- What stands when a part was not set. -/
structure RdX (w : World) (S : Stk) (o n : Nat) (pre : List Nat) (W : World) : Prop where
  bad : ∃ j, j < cntP o n ∧ ¬ okP S o n j
  r0 : W.heap[w.heap.size]? = some (.cells #[.slice none 0 0] 37)
  r1 : W.heap[w.heap.size + 1]? = some (.cells #[.int .i64 30] 41)
  but : But [] w W
theorem RdI.abides (w : World) (P B : Nat) (S : Stk) (made : Bool) (o n : Nat) (hB : w.heap.size + 4 ≤ B) : Abides B (RdI w P S made o n) := Abides.of_but fun pre V W L h hb hL => by
  obtain ⟨a, c, h1, h2⟩ := h.out
  have hn : ∀ x, x ∈ L → B ≤ x := fun x hx => (hL x hx).1
  refine ⟨⟨a, c, hb.heap h1 (fun hm => by have := hn _ hm; omega), ownsRow_but h2 hb (fun b hb' hm => ?_)⟩, h.ok, hb.heap h.r0 (fun hm => by have := hn _ hm; omega), hb.heap h.r1 (fun hm => by have := hn _ hm; omega), h.but.trans hb (fun x hx => .inr (by have := hn _ hx; omega))⟩
  obtain ⟨_, cur, hc⟩ := ownsRow_tag h2 hb'
  obtain ⟨_, o', ho, hcc⟩ := hL _ hm
  rw [hc] at ho
  cases ho
  cases hcc
theorem ownsRow_mono {w : World} {B C : Nat} {e : TypeId} {sz n : Nat} {v : Value} {xs : List Value} (h : w.ownsRow B e sz v n xs) (hc : C ≤ B) : w.ownsRow C e sz v n xs := by
  obtain ⟨h1, h2⟩ := h
  refine ⟨h1, ?_⟩
  rcases h2 with h2 | ⟨g, cap, cur, h3, h4, h5⟩
  · exact .inl h2
  · exact .inr ⟨g, cap, cur, h3, Nat.le_trans hc h4, h5⟩
theorem Abides.under {β : Type} {B : Nat} {I : β → World → Prop} {C : Code → Prop} (h : Abides B I) (cd : Code) : Abides B (fun s W => C cd ∧ I s W) :=
  ⟨fun s V W ⟨h0, hs⟩ hb => ⟨h0, h.new s V W hs hb⟩, fun s V r o o' ⟨h0, hs⟩ hr ho hc => ⟨h0, h.put s V r o o' hs hr ho hc⟩⟩
theorem RdX.abides (w : World) (B : Nat) (S : Stk) (o n : Nat) (hB : w.heap.size + 4 ≤ B) : Abides B (RdX w S o n) := Abides.of_but fun pre V W L h hb hL =>
  ⟨h.bad, hb.heap h.r0 (fun hm => by have := (hL _ hm).1; omega), hb.heap h.r1 (fun hm => by have := (hL _ hm).1; omega), h.but.trans hb (fun x hx => .inr (by have := (hL _ hx).1; omega))⟩
theorem rdI_more {w W w5 w6 : World} {P o n x : Nat} {S : Stk} {made : Bool} {pre : List Nat} {a : Option Addr} {c : Nat} {v : Value} (hI : RdI w P S made o n pre W) (ho : okP S o n x)
    (h1 : W.heap[w.heap.size + 3]? = some (.cells #[.slice a (rowP S o n pre).length c] 37)) (h2 : W.ownsRow (w.heap.size + 2) 5 1 (.slice a (rowP S o n pre).length c) (rowP S o n pre).length (u8s (rowP S o n pre)))
    (hb5 : But [] W w5) (hown : w6.ownsRow (w.heap.size + 2) 5 1 v ((rowP S o n pre).length + mnP o n x) (u8s (rowP S o n pre ++ partOf S o n x))) (hg : w5.grownBy w6 (Value.slice a (rowP S o n pre).length c).ownBlock) (hbo : w6.heap[w.heap.size + 3]? = some (.cells #[.slice a (rowP S o n pre).length c] 37)) :
    RdI w P S made o n (pre ++ [x]) (w6.setCell ⟨w.heap.size + 3, 0, none⟩ v) ∧ KeepsOthers W (w6.setCell ⟨w.heap.size + 3, 0, none⟩ v) ∧ KeepX (fun b T => b ≠ w.heap.size + 3 ∧ T ≠ 5) W (w6.setCell ⟨w.heap.size + 3, 0, none⟩ v) := by
  obtain ⟨a', c', rfl⟩ := row_form hown
  have hb6 : But (Value.slice a (rowP S o n pre).length c).ownBlock.toList W w6 := (hb5.mono (M := (Value.slice a (rowP S o n pre).length c).ownBlock.toList) (by simp)).grown hg (fun k hk => .inl (by rw [hk]; simp))
  have hb7 : But ((w.heap.size + 3) :: (Value.slice a (rowP S o n pre).length c).ownBlock.toList) W (w6.setCell ⟨w.heap.size + 3, 0, none⟩ (.slice a' ((rowP S o n pre).length + mnP o n x) c')) := (hb6.mono (fun y hy => List.mem_cons_of_mem _ hy)).setCell (.inl (by simp)) _
  have hlow : ∀ y ∈ ((w.heap.size + 3) :: (Value.slice a (rowP S o n pre).length c).ownBlock.toList), w.heap.size + 2 ≤ y := fun y hy => by
    rcases List.mem_cons.1 hy with rfl | hy
    · omega
    · exact (ownsRow_tag h2 (by simpa using hy)).1
  have hl : (rowP S o n (pre ++ [x])).length = (rowP S o n pre).length + mnP o n x := by rw [rowP_more, List.length_append, partOf_len]
  have hneo : ∀ b, (Value.slice a' ((rowP S o n pre).length + mnP o n x) c').ownBlock = some b → b ≠ w.heap.size + 3 := fun b hb e => by
    subst e
    obtain ⟨_, cur, hc⟩ := ownsRow_tag hown hb
    rw [hbo] at hc
    cases hc
  refine ⟨⟨⟨a', c', ?_, ?_⟩, ?_, ?_, ?_, ?_⟩, ?_, ?_⟩
  · rw [hl]
    have h := heap_set (p := 0) (v := .slice a' ((rowP S o n pre).length + mnP o n x) c') hbo
    exact h
  · rw [hl, rowP_more]
    exact ownsRow_but hown (L := [w.heap.size + 3]) ((But.refl _ _).setCell (.inl (by simp)) _) (fun b hb hm => hneo b hb (by simpa using hm))
  · intro j hj
    rcases List.mem_append.1 hj with h | h
    · exact hI.ok j h
    · simp at h; subst h; exact ho
  · exact hb7.heap hI.r0 (fun hm => by have := hlow _ hm; omega)
  · exact hb7.heap hI.r1 (fun hm => by have := hlow _ hm; omega)
  · exact hI.but.trans hb7 (fun y hy => .inr (by have := hlow y hy; omega))
  · refine keepsOthers_of_but hb7 (fun y hy => ?_)
    rcases List.mem_cons.1 hy with rfl | hy
    · exact ⟨_, _, _, h1⟩
    · obtain ⟨_, cur, hc⟩ := ownsRow_tag h2 (b := y) (by simpa using hy)
      exact ⟨_, _, _, hc⟩
  · refine KeepX.of_but hb7 (fun y hy T hT => ?_)
    rcases List.mem_cons.1 hy with rfl | hy
    · exact fun h => h.1 rfl
    · obtain ⟨_, cur, hc⟩ := ownsRow_tag h2 (b := y) (by simpa using hy)
      obtain ⟨C, f, hT⟩ := hT
      rw [hc] at hT
      cases hT
      exact fun h => h.2 rfl
/-- Behind read. -/
def ReadPost (S : Stk) (o n : Nat) (w : World) (e : Ending) (w' : World) : Prop :=
  ((∀ j, j < cntP o n → okP S o n j) ∧ ∃ a c, e = .returned (.tuple #[.slice a (rowP S o n (List.range (cntP o n))).length c, .int .i64 0]) ∧ w'.ownsRow w.heap.size 5 1 (.slice a (rowP S o n (List.range (cntP o n))).length c) (rowP S o n (List.range (cntP o n))).length (u8s (rowP S o n (List.range (cntP o n)))) ∧ But [] w w') ∨
  ((∃ j, j < cntP o n ∧ ¬ okP S o n j) ∧ e = .returned (.tuple #[.slice none 0 0, .int .i64 30]) ∧ But [] w w')
set_option maxRecDepth 100000 in
set_option maxHeartbeats 4000000 in
theorem read_in (P o n : Nat) (S : Stk) (made : Bool) (w : World) (hon : o + n ≤ 512) (hB : Blk w P 57 833 (S.val made)) :
    CallsIn Fence.wide 9 Try.prog 28 #[.pointer (some ⟨P, 0, none⟩), .int .i64 (o : Int), .int .i64 (n : Int)] w (ReadPost S o n w) := by
  obtain ⟨i0, hi, hz0, hz1, hz2⟩ := info_parts (show (Try.prog.info? 5).map (fun i => (i.zero, i.size, i.bytes)) = some (some (.int .u8 0), 1, 1) by kernel_rfl)
  have hmk : ∀ w, (Instr.makeSlice 37 (.int .i64 0) (.int .i64 (n : Int))).run Try.prog w = .ok (.slice (some ⟨w.heap.size, 0, none⟩) 0 n) (w.alloc (.cells (madeCells #[.int .u8 0] n) 5)) := fun w => by
    have h := run_make (P := Try.prog) w 37 5 i0 (.int .u8 0) Try.underlying37 hi hz0 .i64 .i64 0 (n : Int) (by omega) (by omega) (by rw [hz2]; omega) (by omega)
    rw [h, hz1]
    simp only [Int.toNat_natCast, Nat.mul_one, Int.toNat_zero]
    rfl
  obtain ⟨w1, hw1⟩ : ∃ w1, w1 = (((w.alloc (.cells #[.slice none 0 0] 37)).alloc (.cells #[.int .i64 0] 41)).alloc (.cells (madeCells #[.int .u8 0] n) 5)).alloc (.cells #[.slice (some ⟨w.heap.size + 1 + 1, 0, none⟩) 0 n] 37) := ⟨_, rfl⟩
  have hb1 : But [] w w1 := by rw [hw1]; exact ((((But.refl [] w).alloc _).alloc _).alloc _).alloc _
  have hz1' : w1.heap.size = w.heap.size + 4 := by rw [hw1, size_alloc, size_alloc, size_alloc, size_alloc]
  have k0 : w1.heap[w.heap.size]? = some (.cells #[.slice none 0 0] 37) := by rw [hw1]; exact al_keep (al_keep (al_keep (al_at _ _) _) _) _
  have k1 : w1.heap[w.heap.size + 1]? = some (.cells #[.int .i64 0] 41) := by rw [hw1]; exact al_keep (al_keep (al_eq _ _ _ (by rw [size_alloc])) _) _
  have k2 : w1.heap[w.heap.size + 2]? = some (.cells (madeCells #[.int .u8 0] n) 5) := by rw [hw1]; exact al_keep (al_eq _ _ _ (by rw [size_alloc, size_alloc])) _
  have k3 : w1.heap[w.heap.size + 3]? = some (.cells #[.slice (some ⟨w.heap.size + 2, 0, none⟩) 0 n] 37) := by rw [hw1]; exact al_eq _ _ _ (by rw [size_alloc, size_alloc, size_alloc])
  have kr : w1.ownsRow (w.heap.size + 2) 5 1 (.slice (some ⟨w.heap.size + 2, 0, none⟩) 0 n) 0 [] := ⟨by simp, .inr ⟨w.heap.size + 2, n, _, rfl, Nat.le_refl _, k2, Nat.zero_le _, by unfold maxLen; omega, by simp [size_madeCells], by simp⟩⟩
  obtain ⟨w2, hw2⟩ : ∃ w2, w2 = ((w1.alloc (.cells #[.pointer (some ⟨P, 0, none⟩)] 25)).alloc (.cells #[.int .i64 (o : Int)] 2)).alloc (.cells #[.int .i64 (n : Int)] 3) := ⟨_, rfl⟩
  have hb2 : But [] w1 w2 := by rw [hw2]; exact (((But.refl [] w1).alloc _).alloc _).alloc _
  have hz2' : w2.heap.size = w.heap.size + 7 := by rw [hw2, size_alloc, size_alloc, size_alloc, hz1']
  have g3 : w2.heap[w1.heap.size]? = some (.cells #[.pointer (some ⟨P, 0, none⟩)] 25) := by rw [hw2]; exact al_keep (al_keep (al_at _ _) _) _
  have g2 : w2.heap[w1.heap.size + 1]? = some (.cells #[.int .i64 (o : Int)] 2) := by rw [hw2]; exact al_keep (al_eq _ _ _ (by rw [size_alloc])) _
  have g1 : w2.heap[w1.heap.size + 1 + 1]? = some (.cells #[.int .i64 (n : Int)] 3) := by rw [hw2]; exact al_eq _ _ _ (by rw [size_alloc, size_alloc])
  have hPw := hB.lt
  have HSQ := Lib.hid (parts_seq 8 (by omega) P o n (w1.heap.size + 1 + 1) (w1.heap.size + 1) w1.heap.size (fun b T => b ≠ w.heap.size + 3 ∧ T ≠ 5) w2 g1 g2 g3 hon ⟨by omega, by decide⟩ ⟨by omega, by decide⟩ ⟨by omega, by decide⟩ (fun b hb => ⟨by omega, by decide⟩))
  have HI0 : Hid (RdI w P S made o n [] w2) := Lib.hid ⟨⟨_, _, hb2.heap k3 (by simp), ownsRow_but kr hb2 (by simp)⟩, by simp, hb2.heap k0 (by simp), hb2.heap k1 (by simp), hb1.trans hb2 (by simp)⟩
  have HBW := Lib.hid hB
  have HZ := Lib.hid hz2'
  have HW := Lib.hid hw1
  have HW2 := Lib.hid hw2
  have HPW := Lib.hid hPw
  have HON := Lib.hid hon
  have HMK := Lib.hid hmk
  have hmk1 := hmk ((w.alloc (.cells #[.slice none 0 0] 37)).alloc (.cells #[.int .i64 0] 41))
  clear hw1 hb1 hz1' hw2 hb2 hz2' g1 g2 g3 hB hPw hon k0 k1 k2 k3 kr hi hz0 hz1 hz2
  refine callsIn_of_wp_marks Try.func28 rfl trivial ?_ rfl
  simp only [Try.ntmps28, List.size_toArray, List.length_cons, List.length_nil, Nat.reduceAdd, Nat.reduceSub, Array.replicate_succ, Array.replicate_zero, List.push_toArray, List.append_toArray, List.nil_append, List.cons_append]
  gi_wp2
  refine ⟨trivial, ?_⟩
  have HWW : Hid ((((w.alloc (.cells #[.slice none 0 0] 37)).alloc (.cells #[.int .i64 0] 41)).alloc (.cells (madeCells #[.int .u8 0] n) 5)).alloc (.cells #[.slice (some ⟨w.heap.size + 1 + 1, 0, none⟩) 0 n] 37) = w1) := Lib.hid HW.out.symm
  rw [HWW.out]
  refine (callsIn_wide.2 (parts_c _ _ _ _)).mono ?_
  rintro e w3 ⟨rfl, rfl⟩
  clear hmk hmk1
  gi_wp2
  rw [← HW2.out]
  refine wpIn_rangeFunc_but rfl (by omega) (gf := 45) (lb := #[.pointer (some ⟨w1.heap.size + 1 + 1, 0, none⟩), .pointer (some ⟨w1.heap.size + 1, 0, none⟩), .pointer (some ⟨w1.heap.size, 0, none⟩)]) rfl trivial (enters_of Try.func45 (by kernel_rfl) rfl) HSQ.out
    (fun h k => h.trans k) (fun hz hb => KeepX.of_but hb (by simp)) (fun V l o o' hl hV ho => KeepX.put V l o o' hV ho) (anyP_abides _ _) (But.refl _ _) (fun _ => rfl)
    (RdI w P S made o n) (fun cd pre W => cd = .ret ∧ RdX w S o n pre W) (RdI.abides w P _ S made o n (by have := HZ.out; omega)) (fun cd => (RdX.abides w _ S o n (by have := HZ.out; omega)).under (C := fun cd => cd = .ret) cd) HI0.out
    (fun x a' W => ∃ (g : Nat) (u0 u1 u2 u3 u4 u5 u10 u11 u12 u13 u14 u15 u16 u17 u18 u19 u20 u21 u22 u23 u24 u25 u26 u27 u28 u29 u30 u31 u32 u33 u34 u35 u36 u37 u38 u39 u40 u41 u42 u43 u44 u45 u46 : Value), a' = { tmps := List.toArray (u0 :: u1 :: u2 :: u3 :: u4 :: u5 :: .pointer (some ⟨w.heap.size, 0, none⟩) :: .pointer (some ⟨w.heap.size + 1, 0, none⟩) :: .pointer (some ⟨w.heap.size + 1 + 1 + 1, 0, none⟩) :: .pointer (some ⟨g, 0, none⟩) :: u10 :: u11 :: u12 :: u13 :: u14 :: u15 :: u16 :: u17 :: u18 :: u19 :: u20 :: u21 :: u22 :: u23 :: u24 :: u25 :: u26 :: u27 :: u28 :: u29 :: u30 :: u31 :: u32 :: u33 :: u34 :: u35 :: u36 :: u37 :: u38 :: u39 :: u40 :: u41 :: u42 :: u43 :: u44 :: u45 :: u46 :: []), defers := [] } ∧ W.heap[g]? = some (.cells #[.pointer (some ⟨P, (o + atP o x) / 8 * 13, none⟩), .int .i64 (frP o x : Int), .int .i64 (mnP o n x : Int), .int .i64 (atP o x : Int)] 84))
    (fun a' => Abides.of_but fun x V W' L ⟨g, u0, u1, u2, u3, u4, u5, u10, u11, u12, u13, u14, u15, u16, u17, u18, u19, u20, u21, u22, u23, u24, u25, u26, u27, u28, u29, u30, u31, u32, u33, u34, u35, u36, u37, u38, u39, u40, u41, u42, u43, u44, u45, u46, he, hg⟩ hb hL => ⟨g, u0, u1, u2, u3, u4, u5, u10, u11, u12, u13, u14, u15, u16, u17, u18, u19, u20, u21, u22, u23, u24, u25, u26, u27, u28, u29, u30, u31, u32, u33, u34, u35, u36, u37, u38, u39, u40, u41, u42, u43, u44, u45, u46, he, hb.heap hg (fun hm => by obtain ⟨_, o', ho, hc⟩ := hL _ hm; rw [hg] at ho; cases ho; cases hc)⟩) ?assign ?body ?done ?stop ?throw
  case assign =>
    intro l pre x W K _ _ _ hK
    simp only [encP]
    gi_wp2
    exact hK _ _ ((But.refl [] W).alloc _) ⟨W.heap.size, _, _, _, _, _, _, _, _, _, _, _, _, _, _, _, _, _, _, _, _, _, _, _, _, _, _, _, _, _, _, _, _, _, _, _, _, _, _, _, _, _, _, _, rfl, al_at _ _⟩
  case body =>
    rintro l pre x a' W ⟨g, u0, u1, u2, u3, u4, u5, u10, u11, u12, u13, u14, u15, u16, u17, u18, u19, u20, u21, u22, u23, u24, u25, u26, u27, u28, u29, u30, u31, u32, u33, u34, u35, u36, u37, u38, u39, u40, u41, u42, u43, u44, u45, u46, rfl, hg⟩ hI hx hlt hpl
    have hx1 : x < cntP o n := hx
    have hat := cnt_at.1 hx1
    obtain ⟨oa, oc, ho1, ho2⟩ := hI.out
    have hBW : Blk W P 57 833 (S.val made) := HBW.out.but hI.but (by simp)
    have HI := Lib.hid hI
    have HO1 := Lib.hid ho1
    have HO2 := Lib.hid ho2
    have HBL := Lib.hid hBW
    have hon := HON.out
    have hrl : (rowP S o n pre).length ≤ 1000 := by have h := rowP_len S o n pre; have := cnt_le HON.out; omega
    obtain ⟨at_, hat'⟩ : ∃ y, y = atP o x := ⟨_, rfl⟩
    obtain ⟨fr, hfr⟩ : ∃ y, y = frP o x := ⟨_, rfl⟩
    obtain ⟨mn, hmn⟩ : ∃ y, y = mnP o n x := ⟨_, rfl⟩
    have hfr2 : fr = (o + at_) % 8 := by rw [hfr, hat']; rfl
    have hmn2 : mn = min (8 - fr) (n - at_) := by rw [hmn, hfr, hat']; rfl
    have hgg : W.heap[g]? = some (.cells #[.pointer (some ⟨P, (o + at_) / 8 * 13, none⟩), .int .i64 (fr : Int), .int .i64 (mn : Int), .int .i64 (at_ : Int)] 84) := by rw [hfr, hmn, hat']; exact hg
    obtain ⟨k, hk⟩ : ∃ k, k = (o + at_) / 8 := ⟨_, rfl⟩
    rw [← hk] at hgg
    have q1 : 0 < mn := by omega
    have q2 : fr ≤ 7 := by omega
    have q3 : k < 64 := by omega
    have q4 : fr + mn ≤ 8 := by omega
    have q5 : mn ≤ 8 := by omega
    have d0 := cl_of hgg 0
    have d1 := cl_of hgg 1
    have d2 := cl_of hgg 2
    simp only [List.getElem?_toArray, List.getElem?_cons_zero, List.getElem?_cons_succ] at d0 d1 d2
    have c12 : W.cell? ⟨P, k * 13 + 12, none⟩ = some (.int .u8 (S.set k)) := hBW.cell' (by omega) (val_set _ _ q3)
    have HGG := Lib.hid hgg
    have HE : Hid (okP S o n x ↔ bits .and .u8 (S.set k) (maskI fr mn) = maskI fr mn) := Lib.hid (by rw [hk, hfr, hmn, hat']; rfl)
    have HBS : Hid (∀ i, i < mn → (partOf S o n x)[i]? = some (S.byte (8 * k + (fr + i)))) := Lib.hid fun i hi => by
      unfold partOf
      rw [List.getElem?_map, List.getElem?_range (by rw [← hmn]; exact hi), ← hat']
      simp only [Option.map_some]
      congr 2
      omega
    have HPL : Hid ((partOf S o n x).length = mn) := Lib.hid (by rw [partOf_len, hmn])
    have HMN := Lib.hid hmn
    have HX1 := Lib.hid hx1
    have hz : w.heap.size + 2 ≤ W.heap.size := by have := HZ.out; omega
    clear hg hI hx ho1 ho2 hBW hat hat' hfr hmn hfr2 hmn2 hgg hk hx1
    by_cases hok : bits .and .u8 (S.set k) (maskI fr mn) = maskI fr mn
    · have HOK : Hid (okP S o n x) := Lib.hid (HE.out.2 hok)
      gi_wp2
      refine ⟨trivial, ?_⟩
      refine (calls_round (mask_c fr mn _ q2 q5)).mono ?_
      rintro e w5 ⟨rfl, rfl⟩
      obtain ⟨M, hM⟩ : ∃ M, M = maskI fr mn := ⟨_, rfl⟩
      rw [← hM] at hok ⊢
      clear hM
      gi_wp2
      refine rd7 _ _ _ q1 q2 q3 q4 rfl hrl HPL.out HBS.out hz HGG HO1 HBL HO2 ?_
      intro z32 z33 z34 z35 z36 z37 z38 z39 z40 z41 z42 z43 z44 z45 w5 w6 v hb5 hown hgr hbo
      have HM := Lib.hid (rdI_more HI.out HOK.out HO1.out HO2.out hb5 (by rw [← HMN.out]; exact hown) hgr hbo)
      clear hb5 hown hgr hbo
      gi_wp2
      exact ⟨HM.out.2.1, HM.out.2.2, HM.out.1⟩
    · have hne : (bits .and .u8 (S.set k) (maskI fr mn) == maskI fr mn) = false := by simpa using hok
      have HX : Hid (∃ j, j < cntP o n ∧ ¬ okP S o n j) := Lib.hid ⟨x, HX1.out, fun h => hok (HE.out.1 h)⟩
      have k0 : W.cell? ⟨w.heap.size, 0, none⟩ = some (.slice none 0 0) := cl_of HI.out.r0 0
      have k1 : W.cell? ⟨w.heap.size + 1, 0, none⟩ = some (.int .i64 0) := cl_of HI.out.r1 0
      have kf0 : W.frozen? ⟨w.heap.size, 0, none⟩ = false := by unfold World.frozen?; rw [HI.out.r0]; simp
      have kf1 : W.frozen? ⟨w.heap.size + 1, 0, none⟩ = false := by unfold World.frozen?; rw [HI.out.r1]; simp
      clear hok
      gi_wp2
      refine ⟨trivial, ?_⟩
      refine (calls_round (mask_c fr mn _ q2 q5)).mono ?_
      rintro e w5 ⟨rfl, rfl⟩
      obtain ⟨M, hM⟩ : ∃ M, M = maskI fr mn := ⟨_, rfl⟩
      rw [← hM] at hne ⊢
      clear hM
      have HRX : Hid (KeepsOthers W ((W.setCell ⟨w.heap.size, 0, none⟩ (.slice none 0 0)).setCell ⟨w.heap.size + 1, 0, none⟩ (.int .i64 30)) ∧ RdX w S o n (pre ++ [x]) ((W.setCell ⟨w.heap.size, 0, none⟩ (.slice none 0 0)).setCell ⟨w.heap.size + 1, 0, none⟩ (.int .i64 30))) := Lib.hid (by
        have hb0 : But [w.heap.size, w.heap.size + 1] W ((W.setCell ⟨w.heap.size, 0, none⟩ (.slice none 0 0)).setCell ⟨w.heap.size + 1, 0, none⟩ (.int .i64 30)) := ((But.refl _ W).setCell (.inl (by simp)) _).setCell (.inl (by simp)) _
        have h0 : (W.setCell ⟨w.heap.size, 0, none⟩ (.slice none 0 0)).heap[w.heap.size]? = some (.cells #[.slice none 0 0] 37) := heap_set (p := 0) (v := .slice none 0 0) HI.out.r0
        have h1 : (W.setCell ⟨w.heap.size, 0, none⟩ (.slice none 0 0)).heap[w.heap.size + 1]? = some (.cells #[.int .i64 0] 41) := ((But.refl [w.heap.size] W).setCell (p := ⟨w.heap.size, 0, none⟩) (.inl (by simp)) _).heap HI.out.r1 (by simp)
        refine ⟨keepsOthers_of_but hb0 (fun y hy => ?_), HX.out, ((But.refl [w.heap.size + 1] _).setCell (p := ⟨w.heap.size + 1, 0, none⟩) (.inl (by simp)) _).heap h0 (by simp), heap_set (p := 0) (v := .int .i64 30) h1, HI.out.but.trans hb0 (fun y hy => .inr (by simp at hy; omega))⟩
        simp only [List.mem_cons, List.not_mem_nil, or_false] at hy
        rcases hy with rfl | rfl
        · exact ⟨_, _, _, HI.out.r0⟩
        · exact ⟨_, _, _, HI.out.r1⟩)
      gi_wp2
      exact ⟨HRX.out.1, rfl, HRX.out.2⟩
  case done =>
    rintro Dd ys W rfl hS hI hK
    have hS2 : ys = List.range (cntP o n) := hS
    subst hS2
    obtain ⟨oa, oc, ho1, ho2⟩ := hI.out
    have c3 : W.cell? ⟨w.heap.size + 1 + 1 + 1, 0, none⟩ = some (.slice oa (rowP S o n (List.range (cntP o n))).length oc) := cl_of ho1 0
    have k0 : W.cell? ⟨w.heap.size, 0, none⟩ = some (.slice none 0 0) := cl_of hI.r0 0
    have k1 : W.cell? ⟨w.heap.size + 1, 0, none⟩ = some (.int .i64 0) := cl_of hI.r1 0
    have kf0 : W.frozen? ⟨w.heap.size, 0, none⟩ = false := by unfold World.frozen?; rw [hI.r0]; simp
    have kf1 : W.frozen? ⟨w.heap.size + 1, 0, none⟩ = false := by unfold World.frozen?; rw [hI.r1]; simp
    obtain ⟨row, hrow⟩ : ∃ row, row = rowP S o n (List.range (cntP o n)) := ⟨_, rfl⟩
    have HEND : Hid (∀ W2, But [w.heap.size, w.heap.size + 1] W W2 → W2.heap[w2.heap.size]? = some (.deferred (some [])) → But [w.heap.size, w.heap.size + 1, w2.heap.size] W (W2.putObj w2.heap.size (.deferred none)) → ReadPost S o n w (.returned (.tuple #[.slice oa row.length oc, .int .i64 0])) (W2.putObj w2.heap.size (.deferred none))) := Lib.hid fun W2 hb2 hK2 hb3 => by
      have how : (W2.putObj w2.heap.size (.deferred none)).ownsRow w.heap.size 5 1 (.slice oa (rowP S o n (List.range (cntP o n))).length oc) (rowP S o n (List.range (cntP o n))).length (u8s (rowP S o n (List.range (cntP o n)))) := by
        refine ownsRow_but (L := [w.heap.size, w.heap.size + 1, w2.heap.size]) (ownsRow_mono (C := w.heap.size) ho2 (by omega)) hb3 (fun b hb hm => ?_)
        obtain ⟨h1, cur, hc⟩ := ownsRow_tag ho2 hb
        simp only [List.mem_cons, List.not_mem_nil, or_false] at hm
        rcases hm with rfl | rfl | rfl
        · omega
        · omega
        · rw [hK] at hc
          cases hc
      exact .inl ⟨fun j hj => hI.ok j (List.mem_range.2 hj), oa, oc, by rw [hrow], how, hI.but.trans hb3 (fun y hy => .inr (by simp at hy; have := HZ.out; omega))⟩
    rw [← hrow] at c3
    have HK := Lib.hid hK
    have HR0 := Lib.hid hI.r0
    have HR1 := Lib.hid hI.r1
    clear hS hI ho1 ho2 hrow hK
    gi_wp2
    have hb2 : But [w.heap.size, w.heap.size + 1] W ((W.setCell ⟨w.heap.size, 0, none⟩ (.slice oa row.length oc)).setCell ⟨w.heap.size + 1, 0, none⟩ (.int .i64 0)) := ((But.refl _ W).setCell (.inl (by simp)) _).setCell (.inl (by simp)) _
    have hK2 := hb2.heap HK.out (by simp only [List.mem_cons, List.not_mem_nil, or_false]; have := HZ.out; omega)
    have hbp := but_putObj (.deferred none) hK2
    have h0 := hbp.heap (((But.refl [w.heap.size + 1] _).setCell (p := ⟨w.heap.size + 1, 0, none⟩) (.inl (by simp)) (.int .i64 0)).heap (heap_set (p := 0) (v := .slice oa row.length oc) HR0.out) (by simp)) (by simp only [List.mem_singleton]; have := HZ.out; omega)
    have h1 := hbp.heap (heap_set (p := 0) (v := .int .i64 0) (((But.refl [w.heap.size] W).setCell (p := ⟨w.heap.size, 0, none⟩) (.inl (by simp)) (.slice oa row.length oc)).heap HR1.out (by simp))) (by simp only [List.mem_singleton]; have := HZ.out; omega)
    refine ⟨by simp, .inl ⟨_, _, rfl, run_takeDeferred hK2, ?_⟩⟩
    refine ⟨_, res_cells2 rfl rfl rfl (by kernel_rfl) (by kernel_rfl) (cl_of h0 0) (cl_of h1 0), ?_⟩
    exact HEND.out _ hb2 hK2 (hb2.mono (by simp) |>.trans hbp (fun y hy => .inl (by simp at hy; simp [hy])))
  case stop =>
    rintro Dd cd pre W rfl _ ⟨rfl, hX⟩ hK
    have HX := Lib.hid hX
    have HK := Lib.hid hK
    clear hX hK
    gi_wp2
    have hbp := but_putObj (.deferred none) HK.out
    have h0 := hbp.heap HX.out.r0 (by simp only [List.mem_singleton]; have := HZ.out; omega)
    have h1 := hbp.heap HX.out.r1 (by simp only [List.mem_singleton]; have := HZ.out; omega)
    refine ⟨by simp, .inl ⟨_, _, rfl, run_takeDeferred HK.out, ?_⟩⟩
    refine ⟨_, res_cells2 rfl rfl rfl (by kernel_rfl) (by kernel_rfl) (cl_of h0 0) (cl_of h1 0), ?_⟩
    exact .inr ⟨HX.out.bad, rfl, HX.out.but.trans hbp (fun y hy => .inr (by simp at hy; have := HZ.out; omega))⟩
  case throw =>
    rintro Dd pre chain W _ h _ _
    exact h.elim
theorem read_c (P o n : Nat) (S : Stk) (made : Bool) (w : World) (hon : o + n ≤ 512) (hB : Blk w P 57 833 (S.val made)) : Calls Try.prog 28 #[.pointer (some ⟨P, 0, none⟩), .int .i64 (o : Int), .int .i64 (n : Int)] w (ReadPost S o n w) :=
  callsIn_wide.1 (read_in P o n S made w hon hB)
end Go.Proofs.Ytmaeiifhmngllaa.M
