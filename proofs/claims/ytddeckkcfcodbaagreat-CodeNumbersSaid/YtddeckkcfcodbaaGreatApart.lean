/-
  hatchwaykit.ApartBytes: lists of bytes in blocks of their own lie apart.
-/
import Derived.Test.YtddeckkcfcodbaaGreatFlatD
import Derived.Test.YtddeckkcfcodbaaGreatFlats
namespace Go.Proofs.YtddeckkcfcodbaaGreat.M
open Go.RowKit
set_option linter.unusedVariables false
set_option linter.unusedSectionVars false
set_option linter.unusedSimpArgs false
theorem cellQ_of {w : World} {k : Nat} {cs : Array Value} {t : TypeId} {f : Nat × Nat} (h : w.heap[k]? = some (.cells cs t f)) (j : Nat) : w.cell? ⟨k, j, none⟩ = cs[j]? := by
  unfold World.cell?; rw [h]; rfl
def bagC (bs : Value) : Array Value := #[.slice none 0 0, .slice none 0 0, .slice none 0 0, .slice none 0 0, .slice none 0 0, bs, .slice none 0 0, .slice none 0 0, .slice none 0 0, .slice none 0 0, .slice none 0 0, .slice none 0 0, .slice none 0 0, .slice none 0 0, .slice none 0 0, .slice none 0 0, .slice none 0 0, .slice none 0 0, .slice none 0 0, .slice none 0 0, .slice none 0 0, .slice none 0 0, .slice none 0 0, .slice none 0 0]
set_option maxRecDepth 100000 in
set_option maxHeartbeats 8000000 in
theorem bag_apart (B : Nat) (a : Option Addr) (m c : Nat) (vals : List Value) (n : Nat → Nat) (w : World) (hB : w.heap[B]? = some (.cells (bagC (.slice a m c)) 88)) (hq : OwnQ w 22 (.slice a m c) vals) (hA : ApartV vals)
    (hN : ∀ (k : Nat) (v : Value), vals[k]? = some v → (∃ xs, OwnQ w 5 v xs ∧ xs.length = n k) ∧ n k ≤ 1000000000000) (hK : vals.length ≤ 1000000) :
    Calls Tryz.prog 33 #[.pointer (some ⟨B, 0, none⟩)] w fun e w' => e = .returned (.bool true) ∧ But (blks vals) w w' := by
  have HA := Lib.hid hA
  have HN := Lib.hid hN
  have HQ := Lib.hid hq
  have HB := Lib.hid hB
  have HT : Hid (But [] w w) := Lib.hid (But.refl _ _)
  have hBn : B ∉ blks vals := fun hm => by
    obtain ⟨k, v, hv, hb⟩ := of_blks hm
    obtain ⟨⟨xs, h1, _⟩, _⟩ := hN k v hv
    obtain ⟨cur, hg⟩ := h1.tag B hb
    rw [hB] at hg
    simp only [Option.some.injEq, Obj.cells.injEq] at hg
    exact absurd hg.2.1 (by decide)
  have HBN := Lib.hid hBn
  have c0 : w.cell? ⟨B, 0, none⟩ = some (.slice none 0 0) := cellQ_of hB 0
  clear hA hN hq hB hBn
  go_enter Tryz.func33, Tryz.ntmps33
  go_wp2_with fail
  refine (flatLimbs_nil _).mono ?_
  rintro e w1 ⟨rfl, hb⟩
  have hB1 := hb.heap HB.out (by simp)
  have c1 : w1.cell? ⟨B, 1, none⟩ = some (.slice none 0 0) := cellQ_of hB1 1
  have HT : Hid (But [] w w1) := Lib.hid (HT.out.trans hb (by simp))
  have HB := Lib.hid hB1
  clear hb hB1 c0
  go_wp2_with fail
  refine (flatWords_nil _).mono ?_
  rintro e w2 ⟨rfl, hb⟩
  have hB2 := hb.heap HB.out (by simp)
  have c2 : w2.cell? ⟨B, 2, none⟩ = some (.slice none 0 0) := cellQ_of hB2 2
  have HT : Hid (But [] w w2) := Lib.hid (HT.out.trans hb (by simp))
  have HB := Lib.hid hB2
  clear hb hB2 c1
  go_wp2_with fail
  refine (flatInts_nil _).mono ?_
  rintro e w3 ⟨rfl, hb⟩
  have hB3 := hb.heap HB.out (by simp)
  have c3 : w3.cell? ⟨B, 3, none⟩ = some (.slice none 0 0) := cellQ_of hB3 3
  have HT : Hid (But [] w w3) := Lib.hid (HT.out.trans hb (by simp))
  have HB := Lib.hid hB3
  clear hb hB3 c2
  go_wp2_with fail
  refine (flatLongs_nil _).mono ?_
  rintro e w4 ⟨rfl, hb⟩
  have hB4 := hb.heap HB.out (by simp)
  have c4 : w4.cell? ⟨B, 4, none⟩ = some (.slice none 0 0) := cellQ_of hB4 4
  have HT : Hid (But [] w w4) := Lib.hid (HT.out.trans hb (by simp))
  have HB := Lib.hid hB4
  clear hb hB4 c3
  go_wp2_with fail
  refine (flatTexts_nil _).mono ?_
  rintro e w5 ⟨rfl, hb⟩
  have hB5 := hb.heap HB.out (by simp)
  have c5 : w5.cell? ⟨B, 5, none⟩ = some (.slice a m c) := cellQ_of hB5 5
  have HT : Hid (But [] w w5) := Lib.hid (HT.out.trans hb (by simp))
  have HB := Lib.hid hB5
  clear hb hB5 c4
  go_wp2_with fail
  refine (flatBytes _ vals n _ (HQ.out.but HT.out (by simp)) HA.out (fun k v hv => ⟨by obtain ⟨⟨xs, h1, h2⟩, _⟩ := HN.out k v hv; exact ⟨xs, h1.but HT.out (by simp), h2⟩, (HN.out k v hv).2⟩) hK).mono ?_
  rintro e w6 ⟨rfl, hb⟩
  have hB6 := hb.heap HB.out HBN.out
  have c6 : w6.cell? ⟨B, 6, none⟩ = some (.slice none 0 0) := cellQ_of hB6 6
  have HT : Hid (But (blks vals) w w6) := Lib.hid ((HT.out.mono (by simp)).trans hb (fun x h => .inl h))
  have HB := Lib.hid hB6
  clear hb hB6 c5
  go_wp2_with fail
  refine (flatTruths_nil _).mono ?_
  rintro e w7 ⟨rfl, hb⟩
  have hB7 := hb.heap HB.out (by simp)
  have c7 : w7.cell? ⟨B, 7, none⟩ = some (.slice none 0 0) := cellQ_of hB7 7
  have HT : Hid (But (blks vals) w w7) := Lib.hid (HT.out.trans hb (by simp))
  have HB := Lib.hid hB7
  clear hb hB7 c6
  go_wp2_with fail
  refine (flatRows_nil _).mono ?_
  rintro e w8 ⟨rfl, hb⟩
  have hB8 := hb.heap HB.out (by simp)
  have c8 : w8.cell? ⟨B, 8, none⟩ = some (.slice none 0 0) := cellQ_of hB8 8
  have HT : Hid (But (blks vals) w w8) := Lib.hid (HT.out.trans hb (by simp))
  have HB := Lib.hid hB8
  clear hb hB8 c7
  go_wp2_with fail
  refine (flatProgram_nil _).mono ?_
  rintro e w9 ⟨rfl, hb⟩
  have hB9 := hb.heap HB.out (by simp)
  have c9 : w9.cell? ⟨B, 9, none⟩ = some (.slice none 0 0) := cellQ_of hB9 9
  have HT : Hid (But (blks vals) w w9) := Lib.hid (HT.out.trans hb (by simp))
  have HB := Lib.hid hB9
  clear hb hB9 c8
  go_wp2_with fail
  refine (flatMapSpecs_nil _).mono ?_
  rintro e w10 ⟨rfl, hb⟩
  have hB10 := hb.heap HB.out (by simp)
  have c10 : w10.cell? ⟨B, 10, none⟩ = some (.slice none 0 0) := cellQ_of hB10 10
  have HT : Hid (But (blks vals) w w10) := Lib.hid (HT.out.trans hb (by simp))
  have HB := Lib.hid hB10
  clear hb hB10 c9
  go_wp2_with fail
  refine (flatMapKinds_nil _).mono ?_
  rintro e w11 ⟨rfl, hb⟩
  have hB11 := hb.heap HB.out (by simp)
  have c11 : w11.cell? ⟨B, 11, none⟩ = some (.slice none 0 0) := cellQ_of hB11 11
  have HT : Hid (But (blks vals) w w11) := Lib.hid (HT.out.trans hb (by simp))
  have HB := Lib.hid hB11
  clear hb hB11 c10
  go_wp2_with fail
  refine (flatFields_nil _).mono ?_
  rintro e w12 ⟨rfl, hb⟩
  have hB12 := hb.heap HB.out (by simp)
  have c12 : w12.cell? ⟨B, 12, none⟩ = some (.slice none 0 0) := cellQ_of hB12 12
  have HT : Hid (But (blks vals) w w12) := Lib.hid (HT.out.trans hb (by simp))
  have HB := Lib.hid hB12
  clear hb hB12 c11
  go_wp2_with fail
  refine (flatNeeds_nil _).mono ?_
  rintro e w13 ⟨rfl, hb⟩
  have hB13 := hb.heap HB.out (by simp)
  have c13 : w13.cell? ⟨B, 13, none⟩ = some (.slice none 0 0) := cellQ_of hB13 13
  have HT : Hid (But (blks vals) w w13) := Lib.hid (HT.out.trans hb (by simp))
  have HB := Lib.hid hB13
  clear hb hB13 c12
  go_wp2_with fail
  refine (flatProgTypes_nil _).mono ?_
  rintro e w14 ⟨rfl, hb⟩
  have hB14 := hb.heap HB.out (by simp)
  have c14 : w14.cell? ⟨B, 14, none⟩ = some (.slice none 0 0) := cellQ_of hB14 14
  have HT : Hid (But (blks vals) w w14) := Lib.hid (HT.out.trans hb (by simp))
  have HB := Lib.hid hB14
  clear hb hB14 c13
  go_wp2_with fail
  refine (flatArgs_nil _).mono ?_
  rintro e w15 ⟨rfl, hb⟩
  have hB15 := hb.heap HB.out (by simp)
  have c15 : w15.cell? ⟨B, 15, none⟩ = some (.slice none 0 0) := cellQ_of hB15 15
  have HT : Hid (But (blks vals) w w15) := Lib.hid (HT.out.trans hb (by simp))
  have HB := Lib.hid hB15
  clear hb hB15 c14
  go_wp2_with fail
  refine (flatHelpers_nil _).mono ?_
  rintro e w16 ⟨rfl, hb⟩
  have hB16 := hb.heap HB.out (by simp)
  have c16 : w16.cell? ⟨B, 16, none⟩ = some (.slice none 0 0) := cellQ_of hB16 16
  have HT : Hid (But (blks vals) w w16) := Lib.hid (HT.out.trans hb (by simp))
  have HB := Lib.hid hB16
  clear hb hB16 c15
  go_wp2_with fail
  refine (flatTables_nil _).mono ?_
  rintro e w17 ⟨rfl, hb⟩
  have hB17 := hb.heap HB.out (by simp)
  have c17 : w17.cell? ⟨B, 17, none⟩ = some (.slice none 0 0) := cellQ_of hB17 17
  have HT : Hid (But (blks vals) w w17) := Lib.hid (HT.out.trans hb (by simp))
  have HB := Lib.hid hB17
  clear hb hB17 c16
  go_wp2_with fail
  refine (flatCells_nil _).mono ?_
  rintro e w18 ⟨rfl, hb⟩
  have hB18 := hb.heap HB.out (by simp)
  have c18 : w18.cell? ⟨B, 18, none⟩ = some (.slice none 0 0) := cellQ_of hB18 18
  have HT : Hid (But (blks vals) w w18) := Lib.hid (HT.out.trans hb (by simp))
  have HB := Lib.hid hB18
  clear hb hB18 c17
  go_wp2_with fail
  refine (flatCodes_nil _).mono ?_
  rintro e w19 ⟨rfl, hb⟩
  have hB19 := hb.heap HB.out (by simp)
  have c19 : w19.cell? ⟨B, 19, none⟩ = some (.slice none 0 0) := cellQ_of hB19 19
  have HT : Hid (But (blks vals) w w19) := Lib.hid (HT.out.trans hb (by simp))
  have HB := Lib.hid hB19
  clear hb hB19 c18
  go_wp2_with fail
  refine (flatGives_nil _).mono ?_
  rintro e w20 ⟨rfl, hb⟩
  have hB20 := hb.heap HB.out (by simp)
  have c20 : w20.cell? ⟨B, 20, none⟩ = some (.slice none 0 0) := cellQ_of hB20 20
  have HT : Hid (But (blks vals) w w20) := Lib.hid (HT.out.trans hb (by simp))
  have HB := Lib.hid hB20
  clear hb hB20 c19
  go_wp2_with fail
  refine (flatRequests_nil _).mono ?_
  rintro e w21 ⟨rfl, hb⟩
  have hB21 := hb.heap HB.out (by simp)
  have c21 : w21.cell? ⟨B, 21, none⟩ = some (.slice none 0 0) := cellQ_of hB21 21
  have HT : Hid (But (blks vals) w w21) := Lib.hid (HT.out.trans hb (by simp))
  have HB := Lib.hid hB21
  clear hb hB21 c20
  go_wp2_with fail
  refine (flatProgramStates_nil _).mono ?_
  rintro e w22 ⟨rfl, hb⟩
  have hB22 := hb.heap HB.out (by simp)
  have c22 : w22.cell? ⟨B, 22, none⟩ = some (.slice none 0 0) := cellQ_of hB22 22
  have HT : Hid (But (blks vals) w w22) := Lib.hid (HT.out.trans hb (by simp))
  have HB := Lib.hid hB22
  clear hb hB22 c21
  go_wp2_with fail
  refine (flatLinkStates_nil _).mono ?_
  rintro e w23 ⟨rfl, hb⟩
  have hB23 := hb.heap HB.out (by simp)
  have c23 : w23.cell? ⟨B, 23, none⟩ = some (.slice none 0 0) := cellQ_of hB23 23
  have HT : Hid (But (blks vals) w w23) := Lib.hid (HT.out.trans hb (by simp))
  have HB := Lib.hid hB23
  clear hb hB23 c22
  go_wp2_with fail
  refine (flatStates_nil _).mono ?_
  rintro e w24 ⟨rfl, hb⟩
  have hB24 := hb.heap HB.out (by simp)
  have HT : Hid (But (blks vals) w w24) := Lib.hid (HT.out.trans hb (by simp))
  have HB := Lib.hid hB24
  clear hb hB24 c23
  go_wp2_with fail
  go_ret
  exact ⟨rfl, HT.out⟩
set_option maxRecDepth 100000 in
theorem bag_put (B : Nat) (a : Option Addr) (m c : Nat) (vals : List Value) (av : Option Addr) (nv cv : Nat) (w : World) (hB : w.heap[B]? = some (.cells (bagC (.slice a m c)) 88)) (hq : OwnQ w 22 (.slice a m c) vals) (hK : vals.length ≤ 1000000) :
    Calls Tryz.prog 32 #[.pointer (some ⟨B, 0, none⟩), .slice av nv cv] w fun e w' => e = .returned (.tuple #[]) ∧ ∃ a' m' c', w'.heap[B]? = some (.cells (bagC (.slice a' m' c')) 88) ∧ OwnQ w' 22 (.slice a' m' c') (vals ++ [.slice av nv cv]) ∧ (∀ b, (Value.slice a' m' c').ownBlock = some b → (Value.slice a m c).ownBlock = some b ∨ w.heap.size ≤ b) ∧ But (B :: (Value.slice a m c).ownBlock.toList) w w' := by
  obtain ⟨i0, hi, hz0, hz1, hz2⟩ := info_parts (show (Tryz.prog.info? 22).map (fun i => (i.zero, i.size, i.bytes)) = some (some (.slice none 0 0), 1, 24) by kernel_rfl)
  have hBb : ∀ b, (Value.slice a m c).ownBlock = some b → B ≠ b := fun b hb e => by
    subst e
    obtain ⟨cur, hg⟩ := hq.tag _ hb
    rw [hB] at hg
    simp only [Option.some.injEq, Obj.cells.injEq] at hg
    exact absurd hg.2.1 (by decide)
  have c5 : w.cell? ⟨B, 5, none⟩ = some (.slice a m c) := cellQ_of hB 5
  have hlt := lt_of hB
  have HQ : Hid (OwnQ (w.alloc (.cells #[.slice av nv cv] 22)) 22 (.slice a m c) vals) := Lib.hid (hq.but ((But.refl [] _).alloc _) (by simp))
  have HSRC : Hid (Src Tryz.prog i0.size 42 (.slice (some ⟨w.heap.size, 0, none⟩) 1 1) [Value.slice av nv cv].length [Value.slice av nv cv] (w.alloc (.cells #[.slice av nv cv] 22))) := Lib.hid (by
    rw [hz1]
    exact Src.ofSlice _ Tryz.underlying42 _ 1 1 _ (by simp) (cell_one_new _ _ _) (by intro u hu; simp at hu; subst hu; rfl))
  have key : ∀ (v' : Value) (w5 : World), Appended (w.alloc (.cells #[.slice av nv cv] 22)) w5 22 (.slice a m c) v' vals [.slice av nv cv] → ∃ a' m' c', v' = Value.slice a' m' c' ∧ (∃ u, w5.cell? ⟨B, 5, none⟩ = some u) ∧ w5.frozen? ⟨B, 5, none⟩ = false ∧ (w5.setCell ⟨B, 5, none⟩ v').heap[B]? = some (.cells (bagC v') 88) ∧ OwnQ (w5.setCell ⟨B, 5, none⟩ v') 22 v' (vals ++ [.slice av nv cv]) ∧ (∀ b, v'.ownBlock = some b → (Value.slice a m c).ownBlock = some b ∨ w.heap.size ≤ b) ∧ But (B :: (Value.slice a m c).ownBlock.toList) w (w5.setCell ⟨B, 5, none⟩ v') := fun v' w5 hap => by
    obtain ⟨h1, h2⟩ := hap
    obtain ⟨a', c', e⟩ := h1.form
    have hx : But (Value.slice a m c).ownBlock.toList (w.alloc (.cells #[.slice av nv cv] 22)) w5 ∧ (∀ b, v'.ownBlock = some b → (Value.slice a m c).ownBlock = some b ∨ w.heap.size ≤ b) := by
      rcases h2 with ⟨a2, cap, e1, e2, _, hb⟩ | ⟨hn, hb⟩
      · refine ⟨hb, fun b hb' => .inl ?_⟩
        rw [e1]
        rw [e2] at hb'
        cases a2 <;> exact hb'
      · refine ⟨hb.mono (by simp), fun b hb' => .inr ?_⟩
        rw [hn] at hb'
        cases hb'
        rw [size_alloc]
        omega
    have hB5 : w5.heap[B]? = some (.cells (bagC (.slice a m c)) 88) := hx.1.heap (((But.refl [] w).alloc _).heap hB (by simp)) (fun hm => hBb B (by simpa using hm) rfl)
    have hs : But [B] w5 (w5.setCell ⟨B, 5, none⟩ v') := (But.refl _ _).setCell (.inl (by simp)) _
    refine ⟨a', _, c', e, ⟨_, cellQ_of hB5 5⟩, ?_, ?_, h1.but hs (fun b hb hm => ?_), hx.2, ?_⟩
    · unfold World.frozen?; rw [hB5]; simp
    · simp [World.setCell, Array.getElem?_modify, hB5, bagC]
    · simp only [List.mem_singleton] at hm
      subst hm
      rcases hx.2 _ hb with h | h
      · exact hBb _ h rfl
      · omega
    · exact (((But.refl _ w).alloc _).trans hx.1 (fun x hm => .inl (List.mem_cons_of_mem _ hm))).setCell (p := ⟨B, 5, none⟩) (.inl (List.mem_cons_self ..)) _
  have KEY := Lib.hid key
  have hf5 : w.frozen? ⟨B, 5, none⟩ = false := by unfold World.frozen?; rw [hB]; simp
  clear hB hq hBb key
  go_enter Tryz.func32, Tryz.ntmps32
  go_wp2_with (at_builtin; refine wpList_append_row rfl _ _ 42 rfl 22 i0 (.slice none 0 0) 24 Tryz.underlying42 hi hz0 hz1 hz2 rfl _ vals rfl HQ.out [Value.slice av nv cv] _ rfl HSRC.out (by unfold maxLen; simp only [List.length_cons, List.length_nil]; omega) (by simp only [List.length_cons, List.length_nil]; omega) ?_; intro v' w5 hap; obtain ⟨a5, m5, c5', rfl, ⟨u5, gc5⟩, gf5, h5⟩ := KEY.out _ _ hap; have H5 := Lib.hid h5; clear hap h5)
  go_end0
  exact ⟨rfl, _, _, _, H5.out⟩
set_option maxRecDepth 100000 in
set_option maxHeartbeats 1000000 in
/-- Lists of bytes, each in a block of its own, lie apart. -/
theorem apartBytes (ls : Value) (vals : List Value) (n : Nat → Nat) (w : World) (hs : Sees w ls vals) (hA : ApartV vals) (hN : ∀ (k : Nat) (v : Value), vals[k]? = some v → (∃ xs, OwnQ w 5 v xs ∧ xs.length = n k) ∧ n k ≤ 1000000000000) (hK : vals.length ≤ 1000000) :
    Calls Tryz.prog 15 #[ls] w fun e w' => e = .returned (.bool true) ∧ But (blks vals) w w' := by
  obtain ⟨a, c, rfl, hx⟩ := sees_shape hs
  have HX := Lib.hid hx
  have HA := Lib.hid hA
  have HN := Lib.hid hN
  have hB0 : (w.alloc (.cells (bagC (.slice none 0 0)) 88)).heap[w.heap.size]? = some (.cells (bagC (.slice none 0 0)) 88) := Array.getElem?_push_size
  have HB0 := Lib.hid hB0
  clear hs hx hA hN hB0
  go_enter Tryz.func15, Tryz.ntmps15
  go_wp2_with fail
  go_loopw [4] (fun i wr => ∃ (k : Nat) (a' : Option Addr) (m' c' : Nat), k ≤ vals.length ∧ i = .int .i64 k ∧ wr.heap[w.heap.size]? = some (.cells (bagC (.slice a' m' c')) 88) ∧ OwnQ wr 22 (.slice a' m' c') (vals.take k) ∧ (∀ b, (Value.slice a' m' c').ownBlock = some b → w.heap.size ≤ b) ∧ But [] w wr) (fun i _ => vals.length - (intOf i).toNat)
  case atStart => exact ⟨0, none, 0, 0, Nat.zero_le _, rfl, HB0.out, .inl ⟨rfl, by simp⟩, (fun b hb => by cases hb), (But.refl _ _).alloc _⟩
  case round =>
    obtain ⟨k, a', m', c', hk, rfl, hB, hq, hlo, hb⟩ := hrel
    have HB := Lib.hid hB
    have HQ := Lib.hid hq
    have HLO := Lib.hid hlo
    have HBT := Lib.hid hb
    clear hB hq hlo hb HB0
    by_cases hlt : k < vals.length
    · obtain ⟨v, hv⟩ : ∃ v, vals[k]? = some v := ⟨_, List.getElem?_eq_getElem hlt⟩
      obtain ⟨⟨xs, ho, -⟩, -⟩ := HN.out k v hv
      obtain ⟨av, cv, rfl⟩ := ho.form
      obtain ⟨ad, rfl, hc⟩ := HX.out k _ hv
      have c1 := cell_but HBT.out hc (by simp)
      have hk0 : (0 : Int) ≤ k := by omega
      have hk1 : (k : Int) < vals.length := by omega
      have HT : Hid (vals.take (k + 1) = vals.take k ++ [.slice av xs.length cv]) := Lib.hid (by rw [List.take_add_one, hv]; rfl)
      have hlk : (vals.take k).length ≤ 1000000 := by rw [List.length_take]; omega
      clear hv ho hc
      go_wp2_with fail
      refine (bag_put _ a' m' c' (vals.take k) av _ cv _ HB.out HQ.out hlk).mono ?_
      rintro e w5 ⟨rfl, a5, m5, c5, hB5, hq5, hlo5, hb5⟩
      have HB5 := Lib.hid hB5
      have HQ5 : Hid (OwnQ w5 22 (.slice a5 m5 c5) (vals.take (k + 1))) := Lib.hid (by rw [HT.out]; exact hq5)
      have hsz := HBT.out.size
      have HLO5 : Hid (∀ b, (Value.slice a5 m5 c5).ownBlock = some b → w.heap.size ≤ b) := Lib.hid fun b hb => by
        rcases hlo5 b hb with h | h
        · exact HLO.out b h
        · omega
      have HBT5 : Hid (But [] w w5) := Lib.hid (HBT.out.trans hb5 (fun x hm => .inr (by
        rcases List.mem_cons.1 hm with rfl | hm
        · exact Nat.le_refl _
        · exact HLO.out x (by simpa using hm))))
      clear hB5 hq5 hlo5 hb5
      go_wp2_with fail
      go_roundw
      case rel => exact ⟨k + 1, _, _, _, by omega, by go_num, HB5.out, HQ5.out, HLO5.out, HBT5.out⟩
      case measure => simp [intOf]; omega
    · obtain rfl : k = vals.length := by omega
      have HQ2 : Hid (OwnQ wr 22 (.slice a' m' c') vals) := Lib.hid (by have h := HQ.out; rwa [List.take_length] at h)
      go_wp2_with fail
      refine (bag_apart _ a' m' c' vals n _ HB.out HQ2.out HA.out (fun k v hv => ⟨by obtain ⟨⟨xs, h1, h2⟩, _⟩ := HN.out k v hv; exact ⟨xs, h1.but HBT.out (by simp), h2⟩, (HN.out k v hv).2⟩) hK).mono ?_
      rintro e w5 ⟨rfl, hb5⟩
      have HB5 : Hid (But (blks vals) w w5) := Lib.hid ((HBT.out.mono (by simp)).trans hb5 (fun x h => .inl h))
      clear hb5
      go_wp2_with fail
      go_ret
      exact ⟨rfl, HB5.out⟩
end Go.Proofs.YtddeckkcfcodbaaGreat.M
