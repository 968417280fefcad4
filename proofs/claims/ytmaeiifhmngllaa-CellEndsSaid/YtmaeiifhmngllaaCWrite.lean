/-
  cell's write: bytes laid into the groups that they touch.
-/
import Derived.Test.YtmaeiifhmngllaaCWriteA
namespace Go.Proofs.Ytmaeiifhmngllaa.M
open Go.RowKit Go.Shelf
set_option linter.unusedVariables false
set_option linter.unusedSectionVars false
set_option linter.unusedSimpArgs false
attribute [local go_sem] Oper.semAt_some
/-- Behind the parts of a list. -/
def partBs (o n : Nat) (bs : List Int) (j : Nat) : List Int := (bs.drop (atP o j)).take (mnP o n j)
def wrL (S : Stk) (o : Nat) (bs : List Int) (pre : List Nat) : Stk := pre.foldl (fun S j => putG S ((o + atP o j) / 8) (frP o j) (partBs o bs.length bs j)) S
theorem wrL_more (S : Stk) (o : Nat) (bs : List Int) (pre : List Nat) (x : Nat) : wrL S o bs (pre ++ [x]) = putG (wrL S o bs pre) ((o + atP o x) / 8) (frP o x) (partBs o bs.length bs x) := by simp [wrL]
structure WrI (w : World) (P : Nat) (S : Stk) (made : Bool) (o : Nat) (bs : List Int) (v : Value) (pre : List Nat) (W : World) : Prop where
  box : W.cell? ⟨w.heap.size, 0, none⟩ = some v
  blk : Blk W P 57 833 ((wrL S o bs pre).val made)
  but : But [P] w W
theorem WrI.abides (w : World) (P B : Nat) (S : Stk) (made : Bool) (o : Nat) (bs : List Int) (v : Value) (hB : w.heap.size < B) (hP : P < w.heap.size) : Abides B (WrI w P S made o bs v) := Abides.of_but fun pre V W L h hb hL =>
  ⟨cell_but hb h.box (fun hm => by have := (hL _ hm).1; simp only at this; omega), h.blk.but hb (fun hm => by have := (hL _ hm).1; omega), h.but.trans hb (fun x hx => .inr (by have := (hL x hx).1; omega))⟩
theorem part_len {o : Nat} {bs : List Int} {j : Nat} (h : j < cntP o bs.length) : (partBs o bs.length bs j).length = mnP o bs.length j := by
  have h1 := cnt_at.1 h
  unfold partBs
  rw [List.length_take, List.length_drop]
  unfold mnP
  omega
theorem part_sees {w : World} {ab ao c o : Nat} {bs : List Int} {j : Nat} (h : Sees w (.slice (some ⟨ab, ao, none⟩) bs.length c) (u8s bs)) (hj : j < cntP o bs.length) (hc : bs.length ≤ c) : Sees w (.slice (some ⟨ab, ao + atP o j, none⟩) (mnP o bs.length j) (c - atP o j)) (u8s (partBs o bs.length bs j)) := by
  have h1 := cnt_at.1 hj
  have hl := part_len hj
  refine .inr ⟨⟨ab, ao + atP o j, none⟩, _, by rw [u8s_len, hl], ?_, fun i u hu => ?_⟩
  · rw [u8s_len, hl]; unfold mnP; omega
  · rcases h with ⟨e, _⟩ | ⟨ad, c', e, _, hx⟩
    · simp at e
    · simp only [Value.slice.injEq, Option.some.injEq] at e
      obtain ⟨rfl, _, rfl⟩ := e
      have hi := (List.getElem?_eq_some_iff.1 hu).1
      rw [u8s_len, hl] at hi
      rw [add_at]
      have h2 := hx (atP o j + i) u (by
        unfold u8s partBs at hu
        rw [List.getElem?_map, List.getElem?_take, if_pos hi, List.getElem?_drop] at hu
        unfold u8s
        rw [List.getElem?_map]
        exact hu)
      rw [add_at, ← Nat.add_assoc] at h2
      exact h2
theorem sees_src0 {w : World} {xa : Option Addr} {n xc : Nat} {xs : List Value} (h : Sees w (.slice xa n xc) xs) (h0 : 0 < xs.length) : ∃ ad, xa = some ad ∧ ∀ (j : Nat) (v : Value), xs[j]? = some v → w.cell? (ad.add j) = some v := by
  rcases h with ⟨h, rfl⟩ | ⟨ad, c, h, hc, hj⟩
  · simp at h0
  · simp only [Value.slice.injEq] at h
    exact ⟨ad, h.1, hj⟩
theorem sees_addr {w : World} {a : Option Addr} {n c : Nat} {xs : List Value} (h : Sees w (.slice a n c) xs) (h0 : 0 < xs.length) : ∃ b o, a = some ⟨b, o, none⟩ := by
  obtain ⟨ad, rfl, hx⟩ := sees_src0 h h0
  obtain ⟨x, hx0⟩ : ∃ x, xs[0]? = some x := ⟨_, List.getElem?_eq_getElem h0⟩
  have h1 := hx 0 x hx0
  have h2 : ad.add 0 = ad := by simp [Addr.add]
  rw [h2] at h1
  obtain ⟨b, o, sp⟩ := ad
  cases sp with
  | none => exact ⟨b, o, rfl⟩
  | some k =>
    exfalso
    unfold World.cell? at h1
    split at h1
    · simp at h1
    · cases h1
theorem anyP_abides (B m : Nat) : Abides B (AnyP m) := ⟨fun _ _ _ h _ => h, fun _ _ _ _ _ h _ _ _ => h⟩
set_option maxRecDepth 100000 in
set_option maxHeartbeats 4000000 in
theorem write_in (P o : Nat) (S : Stk) (made : Bool) (a : Option Addr) (c : Nat) (bs : List Int) (w : World) (hon : o + bs.length ≤ 512) (hB : Blk w P 57 833 (S.val made)) (hs : Sees w (.slice a bs.length c) (u8s bs)) (hP : ∀ ad, a = some ad → bs ≠ [] → ad.block ≠ P) (hc : bs.length ≤ c) :
    CallsIn Fence.wide 9 Try.prog 34 #[.pointer (some ⟨P, 0, none⟩), .int .i64 (o : Int), .slice a bs.length c] w fun e w' => e = .returned (.tuple #[]) ∧ Blk w' P 57 833 ((wrL S o bs (List.range (cntP o bs.length))).val made) ∧ But [P] w w' := by
  obtain ⟨w1, hw1⟩ : ∃ w1, w1 = w.alloc (.cells #[.slice a bs.length c] 37) := ⟨_, rfl⟩
  have hb1 : But [] w w1 := by rw [hw1]; exact (But.refl [] w).alloc _
  have hz1 : w1.heap.size = w.heap.size + 1 := by rw [hw1, size_alloc]
  have hbox : w1.heap[w.heap.size]? = some (.cells #[.slice a bs.length c] 37) := by rw [hw1]; exact al_at _ _
  have c1 : w1.cell? ⟨w.heap.size, 0, none⟩ = some (.slice a bs.length c) := cl_of hbox 0
  obtain ⟨w2, hw2⟩ : ∃ w2, w2 = ((w1.alloc (.cells #[.pointer (some ⟨P, 0, none⟩)] 25)).alloc (.cells #[.int .i64 (o : Int)] 2)).alloc (.cells #[.int .i64 (bs.length : Int)] 3) := ⟨_, rfl⟩
  have hb2 : But [] w1 w2 := by rw [hw2]; exact (((But.refl [] w1).alloc _).alloc _).alloc _
  have hz2 : w2.heap.size = w.heap.size + 4 := by rw [hw2, size_alloc, size_alloc, size_alloc, hz1]
  have g3 : w2.heap[w1.heap.size]? = some (.cells #[.pointer (some ⟨P, 0, none⟩)] 25) := by rw [hw2]; exact al_keep (al_keep (al_at _ _) _) _
  have g2 : w2.heap[w1.heap.size + 1]? = some (.cells #[.int .i64 (o : Int)] 2) := by rw [hw2]; exact al_keep (al_eq _ _ _ (by rw [size_alloc])) _
  have g1 : w2.heap[w1.heap.size + 1 + 1]? = some (.cells #[.int .i64 (bs.length : Int)] 3) := by rw [hw2]; exact al_eq _ _ _ (by rw [size_alloc, size_alloc])
  have hPw := hB.lt
  have HSQ := Lib.hid (parts_seq 8 (by omega) P o bs.length (w1.heap.size + 1 + 1) (w1.heap.size + 1) w1.heap.size (fun b _ => b ≠ P) w2 g1 g2 g3 hon (by omega) (by omega) (by omega) (fun b hb => by omega))
  have HI0 : Hid (WrI w P S made o bs (.slice a bs.length c) [] w2) := Lib.hid ⟨cell_but hb2 c1 (by simp), (hB.but hb1 (by simp)).but hb2 (by simp), (hb1.trans hb2 (by simp)).mono (by simp)⟩
  have HS := Lib.hid hs
  have HP := Lib.hid hP
  have HC := Lib.hid hc
  have HBX := Lib.hid hbox
  have HB12 := Lib.hid (hb1.trans hb2 (by simp))
  have HX2 := Lib.hid (hb2.heap hbox (by simp))
  have HZ := Lib.hid hz2
  have HZ1 := Lib.hid hz1
  have HW := Lib.hid hw1
  have HW2 := Lib.hid hw2
  have HPW := Lib.hid hPw
  have HON := Lib.hid hon
  clear hw1 hb1 hz1 hbox hw2 hb2 hz2 g1 g2 g3 hB hs hP hc hPw hon
  refine callsIn_of_wp_marks Try.func34 rfl trivial ?_ rfl
  simp only [Try.ntmps34, List.size_toArray, List.length_cons, List.length_nil, Nat.reduceAdd, Nat.reduceSub, Array.replicate_succ, Array.replicate_zero, List.push_toArray, List.append_toArray, List.nil_append, List.cons_append]
  gi_wp2
  rw [← HW.out]
  refine ⟨trivial, ?_⟩
  refine (callsIn_wide.2 (parts_c _ _ _ _)).mono ?_
  rintro e w3 ⟨rfl, rfl⟩
  gi_wp2
  rw [← HW2.out]
  refine wpIn_rangeFunc_but rfl (by omega) (gf := 45) (lb := #[.pointer (some ⟨w1.heap.size + 1 + 1, 0, none⟩), .pointer (some ⟨w1.heap.size + 1, 0, none⟩), .pointer (some ⟨w1.heap.size, 0, none⟩)]) rfl trivial (enters_of Try.func45 (by kernel_rfl) rfl) HSQ.out
    (fun h k => h.trans k) (fun hz hb => KeepX.of_but hb (by simp)) (fun V l o o' hl hV ho => KeepX.put V l o o' hV ho) (anyP_abides _ _) (But.refl _ _) (fun _ => rfl)
    (WrI w P S made o bs (.slice a bs.length c)) (fun _ _ _ => False) (WrI.abides w P _ S made o bs _ (by have := HZ.out; omega) HPW.out) (fun _ => Abides.none _) HI0.out
    (fun x a' W => ∃ (g : Nat) (u0 u1 u2 u3 u4 u7 u8 u9 u10 u11 u12 u13 u14 u15 u16 u17 u18 u19 u20 u21 u22 u23 u24 u25 u26 : Value), a' = { tmps := List.toArray (u0 :: u1 :: u2 :: u3 :: u4 :: .pointer (some ⟨w.heap.size, 0, none⟩) :: .pointer (some ⟨g, 0, none⟩) :: u7 :: u8 :: u9 :: u10 :: u11 :: u12 :: u13 :: u14 :: u15 :: u16 :: u17 :: u18 :: u19 :: u20 :: u21 :: u22 :: u23 :: u24 :: u25 :: u26 :: []), defers := [] } ∧ W.heap[g]? = some (.cells #[.pointer (some ⟨P, (o + atP o x) / 8 * 13, none⟩), .int .i64 (frP o x : Int), .int .i64 (mnP o bs.length x : Int), .int .i64 (atP o x : Int)] 84))
    (fun a' => Abides.of_but fun x V W' L ⟨g, u0, u1, u2, u3, u4, u7, u8, u9, u10, u11, u12, u13, u14, u15, u16, u17, u18, u19, u20, u21, u22, u23, u24, u25, u26, he, hg⟩ hb hL => ⟨g, u0, u1, u2, u3, u4, u7, u8, u9, u10, u11, u12, u13, u14, u15, u16, u17, u18, u19, u20, u21, u22, u23, u24, u25, u26, he, hb.heap hg (fun hm => by obtain ⟨_, o', ho, hc⟩ := hL _ hm; rw [hg] at ho; cases ho; cases hc)⟩) ?assign ?body ?done ?stop ?throw
  case assign =>
    intro l pre x W K _ _ _ hK
    simp only [encP]
    gi_wp2
    exact hK _ _ ((But.refl [] W).alloc _) ⟨W.heap.size, _, _, _, _, _, _, _, _, _, _, _, _, _, _, _, _, _, _, _, _, _, _, _, _, _, rfl, al_at _ _⟩
  case body =>
    rintro l pre x a' W ⟨g, u0, u1, u2, u3, u4, u7, u8, u9, u10, u11, u12, u13, u14, u15, u16, u17, u18, u19, u20, u21, u22, u23, u24, u25, u26, rfl, hg⟩ hI hx hlt hpl
    have hx1 : x < cntP o bs.length := hx
    have hat := cnt_at.1 hx1
    have hnn : bs ≠ [] := fun e => by subst e; simp at hat
    have HNN := Lib.hid hnn
    obtain ⟨ab, ao, rfl⟩ := sees_addr HS.out (by rw [u8s_len]; omega)
    have hm := part_len hx1
    have hsw := part_sees (HS.out.but hI.but (fun b hb hm => by simp only [List.mem_singleton] at hm; subst hm; cases hb; exact HP.out _ rfl hnn rfl)) hx1 HC.out
    have hbx : W.cell? ⟨w.heap.size, 0, none⟩ = some (.slice (some ⟨ab, ao, none⟩) bs.length c) := hI.box
    have HI := Lib.hid hI
    have HG := Lib.hid hg
    have HSW := Lib.hid hsw
    have HBX2 := Lib.hid hbx
    have HBL := Lib.hid hI.blk
    have hon := HON.out
    have hcc := HC.out
    obtain ⟨at_, hat'⟩ : ∃ y, y = atP o x := ⟨_, rfl⟩
    obtain ⟨fr, hfr⟩ : ∃ y, y = frP o x := ⟨_, rfl⟩
    obtain ⟨mn, hmn⟩ : ∃ y, y = mnP o bs.length x := ⟨_, rfl⟩
    have hfr2 : fr = (o + at_) % 8 := by rw [hfr, hat']; rfl
    have hmn2 : mn = min (8 - fr) (bs.length - at_) := by rw [hmn, hfr, hat']; rfl
    have HG2 : Hid (W.heap[g]? = some (.cells #[.pointer (some ⟨P, (o + at_) / 8 * 13, none⟩), .int .i64 (fr : Int), .int .i64 (mn : Int), .int .i64 (at_ : Int)] 84)) := by rw [hfr, hmn, hat']; exact HG
    have HSW2 : Hid (Sees W (.slice (some ⟨ab, ao + at_, none⟩) mn (c - at_)) (u8s (partBs o bs.length bs x))) := by rw [hmn, hat']; exact HSW
    have q1 : at_ + mn ≤ bs.length := by omega
    have q2 : 0 < mn := by omega
    have q3 : bs.length ≤ 512 := by omega
    have q4 : fr ≤ 7 := by omega
    have q5 : (o + at_) / 8 < 64 := by omega
    have q6 : fr + mn ≤ 8 := by omega
    have Q7 : Hid ((partBs o bs.length bs x).length = mn) := Lib.hid (by rw [hm, hmn])
    have Q8 : Hid (ab ≠ P) := Lib.hid (fun e => HP.out _ rfl HNN.out e)
    have Q9 : Hid (wrL S o bs (pre ++ [x]) = putG (wrL S o bs pre) ((o + at_) / 8) fr (partBs o bs.length bs x)) := Lib.hid (by rw [wrL_more, hfr, hat'])
    have QP : Hid (∃ cs t f, W.heap[P]? = some (.cells cs t f)) := Lib.hid (by obtain ⟨C, h, _⟩ := hI.blk; exact ⟨_, _, _, h⟩)
    clear hg hI hx hsw hbx c1 hm hat' hfr hmn hfr2 hmn2 HG HSW hat
    gi_wp2
    refine rw3 _ _ _ q1 hcc q2 q3 q4 q5 q6 Q7.out HG2 HBX2 HBL HSW2 Q8.out ?_
    intro z13 z14 z15 z16 z17 z18 z19 z20 z21 z22 z23 z24 z25 z26 w5 hb5 hB5
    have HO : Hid (ownPostK (KeepX fun b _ => b ≠ P) (WrI w P S made o bs (.slice (some ⟨ab, ao, none⟩) bs.length c)) (fun _ _ _ => False) (pre ++ [x]) W .normal { tmps := #[], defers := [] } w5) := Lib.hid ⟨keepsOthers_of_but hb5 (by simp only [List.mem_singleton]; rintro y rfl; exact QP.out), KeepX.of_but hb5 (by simp), ⟨cell_but hb5 HI.out.box (by simp only [List.mem_singleton]; have := HPW.out; omega), by rw [Q9.out]; exact hB5, HI.out.but.trans hb5 (fun y hy => .inl hy)⟩⟩
    clear hb5 hB5
    gi_wp2
    exact HO.out
  case done =>
    rintro Dd ys W rfl hS ⟨hbx, hblk, hbut⟩ hK
    have hb2 : But [w2.heap.size] W (W.putObj w2.heap.size (.deferred none)) := but_putObj _ hK
    have hS2 : ys = List.range (cntP o bs.length) := hS
    subst hS2
    have HEND := Lib.hid (show Blk (W.putObj w2.heap.size (.deferred none)) P 57 833 ((wrL S o bs (List.range (cntP o bs.length))).val made) ∧ But [P] w (W.putObj w2.heap.size (.deferred none)) from ⟨hblk.but hb2 (by simp only [List.mem_singleton]; have := HZ.out; have := HPW.out; omega), hbut.trans hb2 (fun y hy => .inr (by simp only [List.mem_singleton] at hy; have := HZ.out; omega))⟩)
    clear hbx hblk hbut hS
    gi_wp2
    refine ⟨by simp, .inl ⟨_, _, rfl, run_takeDeferred hK, ?_⟩⟩
    refine ⟨_, results_none rfl _ _ _, ?_⟩
    exact ⟨rfl, HEND.out⟩
  case stop =>
    rintro Dd c pre W _ _ h _
    exact h.elim
  case throw =>
    rintro Dd pre chain W _ h _ _
    exact h.elim
theorem write_c (P o : Nat) (S : Stk) (made : Bool) (a : Option Addr) (c : Nat) (bs : List Int) (w : World) (hon : o + bs.length ≤ 512) (hB : Blk w P 57 833 (S.val made)) (hs : Sees w (.slice a bs.length c) (u8s bs)) (hP : ∀ ad, a = some ad → bs ≠ [] → ad.block ≠ P) (hc : bs.length ≤ c) :
    Calls Try.prog 34 #[.pointer (some ⟨P, 0, none⟩), .int .i64 (o : Int), .slice a bs.length c] w fun e w' => e = .returned (.tuple #[]) ∧ Blk w' P 57 833 ((wrL S o bs (List.range (cntP o bs.length))).val made) ∧ But [P] w w' :=
  callsIn_wide.1 (write_in P o S made a c bs w hon hB hs hP hc)
end Go.Proofs.Ytmaeiifhmngllaa.M
