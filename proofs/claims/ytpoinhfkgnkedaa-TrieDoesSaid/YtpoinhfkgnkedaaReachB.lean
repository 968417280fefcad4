/-
  trie.node.reach, where nodes may be made.
-/
import Derived.Test.YtpoinhfkgnkedaaGrow
namespace Go.Proofs.Ytpoinhfkgnkedaa.M
open Go.RowKit Go.Shelf
set_option linter.unusedVariables false
set_option linter.unusedSectionVars false
set_option linter.unusedSimpArgs false
attribute [local go_sem] Oper.semAt_some
/-- What stands between two rounds. -/
structure RgI (w : World) (nd xs : Path → Option Nat) (pre : Path) (W : World) : Prop where
  here : ∃ nd' b, Grown w nd xs pre nd' W ∧ nd' pre = some b ∧ W.heap[w.heap.size]? = some (.cells #[pv (some b)] 57) ∧ ∀ π c, nd' π = some c → nd π = some c ∨ w.heap.size + 3 ≤ c
  grow : W.heap[w.heap.size + 1]? = some (.cells #[.bool true] 4)
  res : W.heap[w.heap.size + 2]? = some (.cells #[.pointer none] 57)
  size : w.heap.size + 3 ≤ W.heap.size
theorem Grown.noCells {w V : World} {nd xs nd' : Path → Option Nat} {pre : Path} (h : Grown w nd xs pre nd' V) {x : Nat} {o : Obj} (ho : V.heap[x]? = some o) (hc : o.isCells = false) : ∀ π, nd' π ≠ some x := fun π hp => by
  have := h.tree.cell π x hp
  unfold NodeAt at this
  rw [ho] at this
  cases this
  cases hc
theorem RgI.abides (w : World) (nd xs : Path → Option Nat) : Abides (w.heap.size + 3) (RgI w nd xs) := Abides.of_but fun pre V W L h hb hL => by
  obtain ⟨nd', b, h1, h2, h3, h4⟩ := h.here
  exact ⟨⟨nd', b, h1.turn hb (fun x hx => by obtain ⟨ha, o, ho, hc⟩ := hL x hx; exact ⟨by omega, h1.noCells ho hc⟩), h2, heap_far h3 hb hL, h4⟩, heap_far h.grow hb hL, heap_far h.res hb hL, Nat.le_trans h.size hb.size⟩
/-- A round where the node is there. -/
theorem RgI.more {w W : World} {nd xs nd' : Path → Option Nat} {pre : Path} {a b : Nat} {x : Int} (h : RgI w nd xs pre W) (hG : Grown w nd xs pre nd' W) (hlow : ∀ π c, nd' π = some c → nd π = some c ∨ w.heap.size + 3 ≤ c) (hnl : ∀ π c, nd π = some c → c < w.heap.size) (hbox : W.heap[w.heap.size]? = some (.cells #[pv (some b)] 57)) (ha : nd' (pre ++ [x]) = some a) :
    KeepsOthers W (W.setCell ⟨w.heap.size, 0, none⟩ (pv (some a))) ∧ (∀ ok : Nat → Prop, ¬ ok w.heap.size → KeepIn ok W (W.setCell ⟨w.heap.size, 0, none⟩ (pv (some a)))) ∧ RgI w nd xs (pre ++ [x]) (W.setCell ⟨w.heap.size, 0, none⟩ (pv (some a))) := by
  have hs : But [w.heap.size] W (W.setCell ⟨w.heap.size, 0, none⟩ (pv (some a))) := (But.refl _ _).setCell (.inl (by simp)) _
  refine ⟨keepsOthers_of_but hs (fun y hy => ?_), fun ok hok => KeepIn.of_but hs (fun y hy => by simp at hy; subst hy; exact hok), ⟨nd', a, (hG.step ha).turn hs (fun y hy => ?_), ha, ?_, hlow⟩, hs.heap h.grow (by simp), hs.heap h.res (by simp), Nat.le_trans h.size hs.size⟩
  · simp only [List.mem_singleton] at hy
    subst hy
    exact ⟨_, _, _, hbox⟩
  · simp only [List.mem_singleton] at hy
    subst hy
    exact ⟨Nat.le_refl _, fun π hp => by rcases hlow _ _ hp with h | h; (have := hnl _ _ h; omega); omega⟩
  · simp [World.setCell, Array.getElem?_modify, hbox]
/-- A round where the node is made. -/
theorem RgI.make {w W : World} {nd xs nd' : Path → Option Nat} {pre : Path} {b : Nat} {x : Int} (h : RgI w nd xs pre W) (hG : Grown w nd xs pre nd' W) (hlow : ∀ π c, nd' π = some c → nd π = some c ∨ w.heap.size + 3 ≤ c) (hnl : ∀ π c, nd π = some c → c < w.heap.size) (hb : nd' pre = some b) (hx : x = 0 ∨ x = 1) (hn : nd' (pre ++ [x]) = none) {V : World}
    (h1 : V.heap[b]? = some (.cells (nodeCells (if x = 0 then some W.heap.size else nd' (pre ++ [0])) (if x = 1 then some W.heap.size else nd' (pre ++ [1])) (xs pre)) 67))
    (h2 : V.heap[W.heap.size]? = some (.cells (nodeCells none none none) 67)) (hV : But [b] W V)
    (hbox : W.heap[w.heap.size]? = some (.cells #[pv (some b)] 57)) :
    KeepsOthers W (V.setCell ⟨w.heap.size, 0, none⟩ (pv (some W.heap.size))) ∧ (∀ ok : Nat → Prop, ¬ ok w.heap.size → ¬ ok b → KeepIn ok W (V.setCell ⟨w.heap.size, 0, none⟩ (pv (some W.heap.size)))) ∧ RgI w nd xs (pre ++ [x]) (V.setCell ⟨w.heap.size, 0, none⟩ (pv (some W.heap.size))) := by
  have hbw : b ≠ w.heap.size ∧ b ≠ w.heap.size + 1 ∧ b ≠ w.heap.size + 2 := by rcases hlow _ _ hb with k | k; (have := hnl _ _ k; omega); omega
  have hsz := h.size
  have hs : But [w.heap.size] V (V.setCell ⟨w.heap.size, 0, none⟩ (pv (some W.heap.size))) := (But.refl _ _).setCell (.inl (by simp)) _
  have ht : But [b, w.heap.size] W (V.setCell ⟨w.heap.size, 0, none⟩ (pv (some W.heap.size))) := (hV.mono (by simp)).trans hs (fun y hy => .inl (by simp at hy; simp [hy]))
  have hboxV := hV.heap hbox (by simp; omega)
  have hlow' : ∀ π c, plus nd' (pre ++ [x]) W.heap.size π = some c → nd π = some c ∨ w.heap.size + 3 ≤ c := fun π c hc => by
    by_cases e : π = pre ++ [x]
    · subst e; rw [plus_at] at hc; cases hc; exact .inr hsz
    · rw [plus_off _ _ e] at hc; exact hlow _ _ hc
  refine ⟨keepsOthers_of_but ht (fun y hy => ?_), fun ok h3 h4 => KeepIn.of_but ht (fun y hy => by simp at hy; rcases hy with rfl | rfl; exact h4; exact h3), ⟨_, W.heap.size, (hG.make hb hx hn h1 h2 hV).turn hs (fun y hy => ?_), plus_at _ _ _, ?_, hlow'⟩, hs.heap (hV.heap h.grow (by simp; omega)) (by simp), hs.heap (hV.heap h.res (by simp; omega)) (by simp), Nat.le_trans hsz ht.size⟩
  · simp only [List.mem_cons, List.not_mem_nil, or_false] at hy
    rcases hy with rfl | rfl
    · exact ⟨_, _, _, hG.tree.cell _ _ hb⟩
    · exact ⟨_, _, _, hbox⟩
  · simp only [List.mem_singleton] at hy
    subst hy
    exact ⟨Nat.le_refl _, fun π hp => by rcases hlow' _ _ hp with k | k; (have := hnl _ _ k; omega); omega⟩
  · simp [World.setCell, Array.getElem?_modify, hboxV]
set_option maxRecDepth 100000 in
set_option maxHeartbeats 4000000 in
theorem reach_yes (P : Nat) (ad : Addr) (cp : Nat) (ks : List Int) (w : World) (nd xs : Path → Option Nat) (b0 : Nat) (hT : Tree w nd xs) (h0 : nd [] = some b0)
    (hP : w.heap[P]? = some (.cells #[.slice (some ad) ks.length cp] 26)) (hs : Sees w (.slice (some ad) ks.length cp) (u8s ks)) (hk : KeyOk ks) (hnp : ∀ π b, nd π = some b → b ≠ P ∧ b ≠ ad.block) :
    CallsIn Fence.wide 5 Try.prog 35 #[pv (some b0), .func (.func 54) #[] #[.pointer (some ⟨P, 0, none⟩)], .bool true] w fun e w' => ∃ nd', e = .returned (pv (nd' (kbits ks))) ∧ Grown w nd xs (kbits ks) nd' w' := by
  have h1 : 1 ≤ 5 := by decide
  obtain ⟨w1, hw1⟩ : ∃ w1, w1 = ((w.alloc (.cells #[pv (some b0)] 57)).alloc (.cells #[.bool true] 4)).alloc (.cells #[.pointer none] 57) := ⟨_, rfl⟩
  have hb1 : But [] w w1 := by rw [hw1]; exact (((But.refl [] w).alloc _).alloc _).alloc _
  have hz1 : w1.heap.size = w.heap.size + 3 := by rw [hw1, size_alloc, size_alloc, size_alloc]
  have g0 : w1.heap[w.heap.size]? = some (.cells #[pv (some b0)] 57) := by rw [hw1]; exact al_keep (al_keep (al_at w _) _) _
  have g1 : w1.heap[w.heap.size + 1]? = some (.cells #[.bool true] 4) := by rw [hw1]; exact al_keep (al_eq _ _ _ (by rw [size_alloc])) _
  have g2 : w1.heap[w.heap.size + 2]? = some (.cells #[.pointer none] 57) := by rw [hw1]; exact al_eq _ _ _ (by rw [size_alloc, size_alloc])
  have hPl := lt_of hP
  have hadl := hs.low (by rw [u8s_len]; have := hk.four; omega) ad.block rfl
  have HW := Lib.hid hw1
  have HS := Lib.hid (bits_seq 4 (by omega) P (fun b => b = P ∨ b = ad.block) ad cp ks w1 (hb1.heap hP (by simp)) (hs.but hb1 (by simp)) hk (.inl rfl) (.inr rfl))
  have HI0 : Hid (RgI w nd xs [] w1) := Lib.hid ⟨⟨nd, b0, (Grown.refl hT).turn hb1 (by simp), h0, g0, fun _ _ h => .inl h⟩, g1, g2, by omega⟩
  have HNP := Lib.hid hnp
  have HNL : Hid (∀ π c, nd π = some c → c < w.heap.size) := Lib.hid (fun π c hc => hT.lt hc)
  have HZ := Lib.hid hz1
  have HT := Lib.hid hT
  clear hnp hw1 hb1 g0 g1 g2 hs hk hz1 hT hP
  unfold pv
  refine callsIn_of_wp_marks Try.func35 rfl trivial ?_ rfl
  simp only [Try.ntmps35, List.size_toArray, List.length_cons, List.length_nil, Nat.reduceAdd, Nat.reduceSub, Array.replicate_succ, Array.replicate_zero, List.push_toArray, List.append_toArray, List.nil_append, List.cons_append]
  gi_wp2
  have hw1 := HW.out
  unfold pv at hw1
  simp only [Option.map_some] at hw1
  rw [← hw1]
  clear hw1
  refine wpIn_rangeFunc_but rfl h1 (gf := 54) (lb := #[.pointer (some ⟨P, 0, none⟩)]) rfl trivial (enters_of Try.func54 (by kernel_rfl) rfl) HS.out
    (fun h k => h.trans k) (fun hz hb => KeepIn.of_but hb (by simp)) (fun V l o o' hl hV ho => KeepIn.of_but (but_putObj o' hV) (by have := HZ.out; simp only [List.mem_singleton]; rintro x rfl h; omega)) (any01_abides _) (But.refl _ _) (fun _ => rfl)
    (RgI w nd xs) (fun _ _ _ => False) (HZ.out ▸ RgI.abides w nd xs) (fun _ => Abides.none _) HI0.out
    (fun x a' _ => a' = { tmps := #[.pointer (some ⟨b0, 0, none⟩), .func (.func 54) #[] #[.pointer (some ⟨P, 0, none⟩)], .bool true, .pointer (some ⟨w.heap.size, 0, none⟩), undef, .pointer (some ⟨w.heap.size + 1, 0, none⟩), .pointer (some ⟨w.heap.size + 2, 0, none⟩), .int .i64 x, .func (.func 54) #[] #[.pointer (some ⟨P, 0, none⟩)], .int .i64 x, undef, undef, undef, undef, undef, undef, undef, undef, undef, undef, undef, undef, undef, undef, undef, undef, undef, undef, undef, undef, undef, undef, undef], defers := [] })
    (fun a' => ⟨fun _ _ _ h _ => h, fun _ _ _ _ _ h _ _ _ => h⟩) ?assign ?body ?done ?stop ?throw
  case assign =>
    intro l pre x W K _ _ _ hK
    simp only [encI]
    gi_wp2
    exact hK _ _ (But.refl _ _) rfl
  case body =>
    rintro l pre x a' W hx0 hI hx _ hlt
    subst hx0
    obtain ⟨nd', b, hG, hb, hbox, hlow⟩ := hI.here
    have hc : W.cell? ⟨w.heap.size, 0, none⟩ = some (pv (some b)) := cl_of hbox 0
    have hf : W.frozen? ⟨w.heap.size, 0, none⟩ = false := fz_of hbox 0
    have hg : W.cell? ⟨w.heap.size + 1, 0, none⟩ = some (.bool true) := cl_of hI.grow 0
    have hn := hG.tree.cell pre b hb
    have n0 : W.cell? ⟨b, 0, none⟩ = some (pv (nd' (pre ++ [0]))) := cl_of hn 0
    have n1 : W.cell? ⟨b, 1, none⟩ = some (pv (nd' (pre ++ [1]))) := cl_of hn 1
    have f0 : W.frozen? ⟨b, 0, none⟩ = false := fz_of hn 0
    have f1 : W.frozen? ⟨b, 1, none⟩ = false := fz_of hn 1
    have HI := Lib.hid hI
    have HG := Lib.hid hG
    have HB := Lib.hid hb
    have HLOW := Lib.hid hlow
    have HBOX := Lib.hid hbox
    have hbok : b ≠ P ∧ b ≠ ad.block := by rcases hlow _ _ hb with k | k; exact HNP.out _ _ k; omega
    have hbw : b ≠ w.heap.size ∧ b < W.heap.size := by
      have h3 := lt_of hn
      rcases hlow _ _ hb with k | k; (have := HNL.out _ _ k; omega); omega
    clear hI hbox hn hG hb hlow
    rcases hx with rfl | rfl
    · cases hq : nd' (pre ++ [0]) with
      | some a =>
        have HRES := Lib.hid (HI.out.more HG.out HLOW.out HNL.out HBOX.out hq)
        rw [hq] at n0
        unfold pv at hc n0 n1
        simp only [Option.map_some, Option.map_none] at hc n0 n1
        clear hq n1
        gi_wp2
        exact ⟨HRES.out.1, HRES.out.2.1 _ (fun h => by omega), HRES.out.2.2⟩
      | none =>
        obtain ⟨V0, hV0⟩ : ∃ V, V = (W.setCell ⟨b, 0, none⟩ (.pointer (some ⟨W.heap.size, 0, none⟩))).alloc (.cells #[.pointer none, .pointer none, .pointer none] 67) := ⟨_, rfl⟩
        have hbV : But [b] W V0 := by rw [hV0]; exact ((But.refl _ _).setCell (.inl (by simp)) _).alloc _
        have k1 : V0.heap[b]? = some (.cells (nodeCells (some W.heap.size) (nd' (pre ++ [1])) (xs pre)) 67) := by
          rw [hV0]
          refine al_keep ?_ _
          have hn := HG.out.tree.cell pre b HB.out
          unfold NodeAt at hn
          simp [World.setCell, Array.getElem?_modify, hn, nodeCells, pv]
        have k2 : V0.heap[W.heap.size]? = some (.cells (nodeCells none none none) 67) := by
          rw [hV0]
          exact al_eq _ _ _ (by simp [World.setCell])
        have HRES := Lib.hid (HI.out.make HG.out HLOW.out HNL.out HB.out (by simp) hq (V := V0) (by simpa using k1) k2 hbV HBOX.out)
        have hcV : V0.cell? ⟨w.heap.size, 0, none⟩ = some (pv (some b)) := cell_but hbV hc (by simp; omega)
        have hfV : V0.frozen? ⟨w.heap.size, 0, none⟩ = false := fz_of (hbV.heap HBOX.out (by simp; omega)) 0
        have hnV : V0.cell? ⟨b, 0, none⟩ = some (pv (some W.heap.size)) := cl_of k1 0
        rw [hq] at n0
        unfold pv at hc n0 n1 hcV hnV
        simp only [Option.map_some, Option.map_none] at hc n0 n1 hcV hnV
        rw [hV0] at hcV hfV hnV
        have HV0 := Lib.hid hV0
        clear hq n1 hbV k1 k2 hV0
        gi_wp2
        rw [← HV0.out]
        exact ⟨HRES.out.1, HRES.out.2.1 _ (fun h => by omega) (fun h => by omega), HRES.out.2.2⟩
    · cases hq : nd' (pre ++ [1]) with
      | some a =>
        have HRES := Lib.hid (HI.out.more HG.out HLOW.out HNL.out HBOX.out hq)
        rw [hq] at n1
        unfold pv at hc n0 n1
        simp only [Option.map_some, Option.map_none] at hc n0 n1
        clear hq n0
        gi_wp2
        exact ⟨HRES.out.1, HRES.out.2.1 _ (fun h => by omega), HRES.out.2.2⟩
      | none =>
        obtain ⟨V0, hV0⟩ : ∃ V, V = (W.setCell ⟨b, 1, none⟩ (.pointer (some ⟨W.heap.size, 0, none⟩))).alloc (.cells #[.pointer none, .pointer none, .pointer none] 67) := ⟨_, rfl⟩
        have hbV : But [b] W V0 := by rw [hV0]; exact ((But.refl _ _).setCell (.inl (by simp)) _).alloc _
        have k1 : V0.heap[b]? = some (.cells (nodeCells (nd' (pre ++ [0])) (some W.heap.size) (xs pre)) 67) := by
          rw [hV0]
          refine al_keep ?_ _
          have hn := HG.out.tree.cell pre b HB.out
          unfold NodeAt at hn
          simp [World.setCell, Array.getElem?_modify, hn, nodeCells, pv]
        have k2 : V0.heap[W.heap.size]? = some (.cells (nodeCells none none none) 67) := by
          rw [hV0]
          exact al_eq _ _ _ (by simp [World.setCell])
        have HRES := Lib.hid (HI.out.make HG.out HLOW.out HNL.out HB.out (by simp) hq (V := V0) (by simpa using k1) k2 hbV HBOX.out)
        have hcV : V0.cell? ⟨w.heap.size, 0, none⟩ = some (pv (some b)) := cell_but hbV hc (by simp; omega)
        have hfV : V0.frozen? ⟨w.heap.size, 0, none⟩ = false := fz_of (hbV.heap HBOX.out (by simp; omega)) 0
        have hnV : V0.cell? ⟨b, 1, none⟩ = some (pv (some W.heap.size)) := cl_of k1 1
        rw [hq] at n1
        unfold pv at hc n0 n1 hcV hnV
        simp only [Option.map_some, Option.map_none] at hc n0 n1 hcV hnV
        rw [hV0] at hcV hfV hnV
        have HV0 := Lib.hid hV0
        clear hq n0 hbV k1 k2 hV0
        gi_wp2
        rw [← HV0.out]
        exact ⟨HRES.out.1, HRES.out.2.1 _ (fun h => by omega) (fun h => by omega), HRES.out.2.2⟩
  case done =>
    rintro D ys W rfl rfl hI hK
    obtain ⟨nd', b, hG, hb, hbox, hlow⟩ := hI.here
    have hc : W.cell? ⟨w.heap.size, 0, none⟩ = some (.pointer (some ⟨b, 0, none⟩)) := cl_of hbox 0
    have hr : W.cell? ⟨w.heap.size + 2, 0, none⟩ = some (.pointer none) := cl_of hI.res 0
    have hrf : W.frozen? ⟨w.heap.size + 2, 0, none⟩ = false := fz_of hI.res 0
    have hs : But [w.heap.size + 2] W (W.setCell ⟨w.heap.size + 2, 0, none⟩ (.pointer (some ⟨b, 0, none⟩))) := (But.refl _ _).setCell (.inl (by simp)) _
    have hK' : (W.setCell ⟨w.heap.size + 2, 0, none⟩ (.pointer (some ⟨b, 0, none⟩))).heap[w1.heap.size]? = some (.deferred (some [])) := hs.heap hK (by have := HZ.out; simp; omega)
    have hb2 : But [w1.heap.size] _ ((W.setCell ⟨w.heap.size + 2, 0, none⟩ (.pointer (some ⟨b, 0, none⟩))).putObj w1.heap.size (.deferred none)) := but_putObj _ hK'
    have hG1 : Grown w nd xs (kbits ks) nd' (W.setCell ⟨w.heap.size + 2, 0, none⟩ (.pointer (some ⟨b, 0, none⟩))) := hG.turn hs (fun x hx => by
      simp only [List.mem_singleton] at hx
      subst hx
      exact ⟨by omega, fun π hp => by rcases hlow _ _ hp with k | k; (have := HNL.out _ _ k; omega); omega⟩)
    have HEND := Lib.hid (hG1.turn hb2 (fun x hx => by
      simp only [List.mem_singleton] at hx
      subst hx
      exact ⟨by have := HZ.out; omega, hG1.noCells hK' rfl⟩))
    have hcr : ((W.setCell ⟨w.heap.size + 2, 0, none⟩ (.pointer (some ⟨b, 0, none⟩))).putObj w1.heap.size (.deferred none)).cell? ⟨w.heap.size + 2, 0, none⟩ = some (.pointer (some ⟨b, 0, none⟩)) := by
      refine cell_but hb2 (p := ⟨w.heap.size + 2, 0, none⟩) ?_ (by have := HZ.out; simp; omega)
      refine cl_of (cs := #[.pointer (some ⟨b, 0, none⟩)]) (t := 57) ?_ 0
      simp [World.setCell, Array.getElem?_modify, hI.res]
    have HCR := Lib.hid hcr
    have HKK := Lib.hid hK'
    have HB := Lib.hid hb
    clear hI hbox hs hK' hb2 hcr hb hG hG1 hlow
    gi_wp2
    refine ⟨by simp, .inl ⟨_, _, rfl, run_takeDeferred HKK.out, ?_⟩⟩
    have hcr := HCR.out
    refine ⟨.pointer (some ⟨b, 0, none⟩), by simp [results, Try.results35, go_sem, hcr], nd', by rw [HB.out]; rfl, HEND.out⟩
  case stop =>
    rintro D c pre W _ _ h _
    exact h.elim
  case throw =>
    rintro D pre chain W _ h _ _
    exact h.elim
end Go.Proofs.Ytpoinhfkgnkedaa.M
