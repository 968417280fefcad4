/-
  trie.node.reach, where nothing may be made.
-/
import Derived.Test.YtpoinhfkgnkedaaTree
namespace Go.Proofs.Ytpoinhfkgnkedaa.M
open Go.RowKit Go.Shelf
set_option linter.unusedVariables false
set_option linter.unusedSectionVars false
set_option linter.unusedSimpArgs false
attribute [local go_sem] Oper.semAt_some
theorem fz_of {w : World} {k : Nat} {cs : Array Value} {t : TypeId} (h : w.heap[k]? = some (.cells cs t)) (j : Nat) : w.frozen? ⟨k, j, none⟩ = false := by
  unfold World.frozen?
  rw [h]
  simp
theorem any01_abides (B : Nat) : Abides B Any01 := ⟨fun _ _ _ h _ => h, fun _ _ _ _ _ h _ _ _ => h⟩
theorem any01_mem (x : Int) (h : x = 0 ∨ x = 1) : (x = 0 ∨ x = 1) := h
/-- What stands between two rounds. -/
structure RcI (w : World) (nd xs : Path → Option Nat) (pre : Path) (W : World) : Prop where
  here : ∃ b, nd pre = some b ∧ W.heap[w.heap.size]? = some (.cells #[pv (some b)] 57)
  grow : W.heap[w.heap.size + 1]? = some (.cells #[.bool false] 4)
  res : W.heap[w.heap.size + 2]? = some (.cells #[.pointer none] 57)
  but : But [] w W
structure RcX (w : World) (nd : Path → Option Nat) (c : Code) (pre : Path) (W : World) : Prop where
  c : c = .ret
  no : nd pre = none
  res : W.heap[w.heap.size + 2]? = some (.cells #[.pointer none] 57)
  but : But [] w W
theorem RcI.abides (w : World) (nd xs : Path → Option Nat) : Abides (w.heap.size + 3) (RcI w nd xs) := Abides.of_but fun pre V W L h hb hL => by
  obtain ⟨b, h1, h2⟩ := h.here
  exact ⟨⟨b, h1, heap_far h2 hb hL⟩, heap_far h.grow hb hL, heap_far h.res hb hL, h.but.trans hb (fun x hx => .inr (by have := (hL x hx).1; omega))⟩
theorem RcX.abides (w : World) (nd : Path → Option Nat) (c : Code) : Abides (w.heap.size + 3) (RcX w nd c) := Abides.of_but fun pre V W L h hb hL =>
  ⟨h.c, h.no, heap_far h.res hb hL, h.but.trans hb (fun x hx => .inr (by have := (hL x hx).1; omega))⟩
theorem RcI.more {w W : World} {nd xs : Path → Option Nat} {pre : Path} {a : Nat} {x : Int} (h : RcI w nd xs pre W) (ha : nd (pre ++ [x]) = some a) :
    KeepsOthers W (W.setCell ⟨w.heap.size, 0, none⟩ (pv (some a))) ∧ (∀ ok : Nat → Prop, ¬ ok w.heap.size → KeepIn ok W (W.setCell ⟨w.heap.size, 0, none⟩ (pv (some a)))) ∧ RcI w nd xs (pre ++ [x]) (W.setCell ⟨w.heap.size, 0, none⟩ (pv (some a))) := by
  have hs : But [w.heap.size] W (W.setCell ⟨w.heap.size, 0, none⟩ (pv (some a))) := (But.refl _ _).setCell (.inl (by simp)) _
  obtain ⟨b, h1, h2⟩ := h.here
  refine ⟨keepsOthers_of_but hs (fun y hy => ?_), fun ok hok => KeepIn.of_but hs (fun y hy => by simp at hy; subst hy; exact hok), ⟨a, ha, ?_⟩, hs.heap h.grow (by simp), hs.heap h.res (by simp), h.but.trans hs (fun y hy => .inr (by simp at hy; omega))⟩
  · simp only [List.mem_singleton] at hy
    subst hy
    exact ⟨_, _, _, h2⟩
  · simp [World.setCell, Array.getElem?_modify, h2]
theorem RcI.stop {w W : World} {nd xs : Path → Option Nat} {pre : Path} {x : Int} (h : RcI w nd xs pre W) (hn : nd (pre ++ [x]) = none) :
    KeepsOthers W (W.setCell ⟨w.heap.size + 2, 0, none⟩ (.pointer none)) ∧ RcX w nd .ret (pre ++ [x]) (W.setCell ⟨w.heap.size + 2, 0, none⟩ (.pointer none)) := by
  have hs : But [w.heap.size + 2] W (W.setCell ⟨w.heap.size + 2, 0, none⟩ (.pointer none)) := (But.refl _ _).setCell (.inl (by simp)) _
  refine ⟨keepsOthers_of_but hs (fun y hy => ?_), rfl, hn, ?_, h.but.trans hs (fun y hy => .inr (by simp at hy; omega))⟩
  · simp only [List.mem_singleton] at hy
    subst hy
    exact ⟨_, _, _, h.res⟩
  · simp [World.setCell, Array.getElem?_modify, h.res]
set_option maxRecDepth 100000 in
set_option maxHeartbeats 4000000 in
theorem reach_no (P : Nat) (ad : Addr) (cp : Nat) (ks : List Int) (w : World) (nd xs : Path → Option Nat) (b0 : Nat) (hT : Tree w nd xs) (h0 : nd [] = some b0)
    (hP : w.heap[P]? = some (.cells #[.slice (some ad) ks.length cp] 26)) (hs : Sees w (.slice (some ad) ks.length cp) (u8s ks)) (hk : KeyOk ks) :
    CallsIn Fence.wide 5 Try.prog 35 #[pv (some b0), .func (.func 54) #[] #[.pointer (some ⟨P, 0, none⟩)], .bool false] w fun e w' => e = .returned (pv (nd (kbits ks))) ∧ But [] w w' := by
  have h1 : 1 ≤ 5 := by decide
  obtain ⟨w1, hw1⟩ : ∃ w1, w1 = ((w.alloc (.cells #[pv (some b0)] 57)).alloc (.cells #[.bool false] 4)).alloc (.cells #[.pointer none] 57) := ⟨_, rfl⟩
  have hb1 : But [] w w1 := by rw [hw1]; exact (((But.refl [] w).alloc _).alloc _).alloc _
  have hz1 : w1.heap.size = w.heap.size + 3 := by rw [hw1, size_alloc, size_alloc, size_alloc]
  have g0 : w1.heap[w.heap.size]? = some (.cells #[pv (some b0)] 57) := by rw [hw1]; exact al_keep (al_keep (al_at w _) _) _
  have g1 : w1.heap[w.heap.size + 1]? = some (.cells #[.bool false] 4) := by rw [hw1]; exact al_keep (al_eq _ _ _ (by rw [size_alloc])) _
  have g2 : w1.heap[w.heap.size + 2]? = some (.cells #[.pointer none] 57) := by rw [hw1]; exact al_eq _ _ _ (by rw [size_alloc, size_alloc])
  have hPl := lt_of hP
  have hadl := hs.low (by rw [u8s_len]; have := hk.four; omega) ad.block rfl
  have HW := Lib.hid hw1
  have HS := Lib.hid (bits_seq 4 (by omega) P (fun b => b = P ∨ b = ad.block) ad cp ks w1 (hb1.heap hP (by simp)) (hs.but hb1 (by simp)) hk (.inl rfl) (.inr rfl))
  have HI0 : Hid (RcI w nd xs [] w1) := Lib.hid ⟨⟨b0, h0, g0⟩, g1, g2, hb1⟩
  have HZ := Lib.hid hz1
  have HT := Lib.hid hT
  clear hw1 hb1 g0 g1 g2 hs hk hz1 hT hP
  unfold pv
  refine callsIn_of_wp_marks Try.func35 rfl trivial ?_ rfl
  simp only [Try.ntmps35, List.size_toArray, List.length_cons, List.length_nil, Nat.reduceAdd, Nat.reduceSub, Array.replicate_succ, Array.replicate_zero, List.push_toArray, List.append_toArray, List.nil_append, List.cons_append]
  gi_wp2
  have hw1 := HW.out
  unfold pv at hw1
  simp only [Option.map_some] at hw1
  rw [← hw1]
  clear hw1
  refine wpIn_rangeFunc_but rfl h1 (gf := 54) (lb := #[.pointer (some ⟨P, 0, none⟩)]) rfl trivial (enters_of Try.func54 (by kernel_rfl) rfl) HS.out
    (fun h k => h.trans k) (fun hz hb => KeepIn.of_but hb (by simp)) (fun V l o o' hl hV ho => KeepIn.of_but (but_putObj o' hV) (by have := HZ.out; simp only [List.mem_singleton]; rintro x rfl h; omega)) (any01_abides _) (But.refl _ _) (fun _ => rfl)
    (RcI w nd xs) (RcX w nd) (HZ.out ▸ RcI.abides w nd xs) (fun c => HZ.out ▸ RcX.abides w nd c) HI0.out
    (fun x a' _ => a' = { tmps := #[.pointer (some ⟨b0, 0, none⟩), .func (.func 54) #[] #[.pointer (some ⟨P, 0, none⟩)], .bool false, .pointer (some ⟨w.heap.size, 0, none⟩), undef, .pointer (some ⟨w.heap.size + 1, 0, none⟩), .pointer (some ⟨w.heap.size + 2, 0, none⟩), .int .i64 x, .func (.func 54) #[] #[.pointer (some ⟨P, 0, none⟩)], .int .i64 x, undef, undef, undef, undef, undef, undef, undef, undef, undef, undef, undef, undef, undef, undef, undef, undef, undef, undef, undef, undef, undef, undef, undef], defers := [] })
    (fun a' => ⟨fun _ _ _ h _ => h, fun _ _ _ _ _ h _ _ _ => h⟩) ?assign ?body ?done ?stop ?throw
  case assign =>
    intro l pre x W K _ _ _ hK
    simp only [encI]
    gi_wp2
    exact hK _ _ (But.refl _ _) rfl
  case body =>
    rintro l pre x a' W hx0 hI hx _ hlt
    subst hx0
    obtain ⟨b, hb, hbox⟩ := hI.here
    have hc : W.cell? ⟨w.heap.size, 0, none⟩ = some (pv (some b)) := cl_of hbox 0
    have hf : W.frozen? ⟨w.heap.size, 0, none⟩ = false := fz_of hbox 0
    have hg : W.cell? ⟨w.heap.size + 1, 0, none⟩ = some (.bool false) := cl_of hI.grow 0
    have hr : W.cell? ⟨w.heap.size + 2, 0, none⟩ = some (.pointer none) := cl_of hI.res 0
    have hrf : W.frozen? ⟨w.heap.size + 2, 0, none⟩ = false := fz_of hI.res 0
    have hn := hI.but.heap (HT.out.cell pre b hb) (by simp)
    have n0 : W.cell? ⟨b, 0, none⟩ = some (pv (nd (pre ++ [0]))) := cl_of hn 0
    have n1 : W.cell? ⟨b, 1, none⟩ = some (pv (nd (pre ++ [1]))) := cl_of hn 1
    have HI := Lib.hid hI
    clear hI hbox hn
    rcases hx with rfl | rfl
    · cases hq : nd (pre ++ [0]) with
      | none =>
        have HRES := Lib.hid (HI.out.stop hq)
        rw [hq] at n0
        unfold pv at hc n0 n1
        simp only [Option.map_some, Option.map_none] at hc n0 n1
        clear hq n1
        gi_wp2
        exact HRES.out
      | some a =>
        have HRES := Lib.hid (HI.out.more hq)
        rw [hq] at n0
        unfold pv at hc n0 n1
        simp only [Option.map_some, Option.map_none] at hc n0 n1
        clear hq n1
        gi_wp2
        exact ⟨HRES.out.1, HRES.out.2.1 _ (fun h => by omega), HRES.out.2.2⟩
    · cases hq : nd (pre ++ [1]) with
      | none =>
        have HRES := Lib.hid (HI.out.stop hq)
        rw [hq] at n1
        unfold pv at hc n0 n1
        simp only [Option.map_some, Option.map_none] at hc n0 n1
        clear hq n0
        gi_wp2
        exact HRES.out
      | some a =>
        have HRES := Lib.hid (HI.out.more hq)
        rw [hq] at n1
        unfold pv at hc n0 n1
        simp only [Option.map_some, Option.map_none] at hc n0 n1
        clear hq n0
        gi_wp2
        exact ⟨HRES.out.1, HRES.out.2.1 _ (fun h => by omega), HRES.out.2.2⟩
  case done =>
    rintro D ys W rfl rfl hI hK
    obtain ⟨b, hb, hbox⟩ := hI.here
    have hc : W.cell? ⟨w.heap.size, 0, none⟩ = some (.pointer (some ⟨b, 0, none⟩)) := cl_of hbox 0
    have hr : W.cell? ⟨w.heap.size + 2, 0, none⟩ = some (.pointer none) := cl_of hI.res 0
    have hrf : W.frozen? ⟨w.heap.size + 2, 0, none⟩ = false := fz_of hI.res 0
    have hs : But [w.heap.size + 2] W (W.setCell ⟨w.heap.size + 2, 0, none⟩ (.pointer (some ⟨b, 0, none⟩))) := (But.refl _ _).setCell (.inl (by simp)) _
    have hK' : (W.setCell ⟨w.heap.size + 2, 0, none⟩ (.pointer (some ⟨b, 0, none⟩))).heap[w1.heap.size]? = some (.deferred (some [])) := hs.heap hK (by have := HZ.out; simp; omega)
    have hb2 : But [w1.heap.size] _ ((W.setCell ⟨w.heap.size + 2, 0, none⟩ (.pointer (some ⟨b, 0, none⟩))).putObj w1.heap.size (.deferred none)) := but_putObj _ hK'
    have HEND := Lib.hid (show But [] w _ from (hI.but.trans hs (fun x hx => .inr (by simp at hx; omega))).trans hb2 (fun x hx => .inr (by have := HZ.out; simp at hx; omega)))
    have hcr : ((W.setCell ⟨w.heap.size + 2, 0, none⟩ (.pointer (some ⟨b, 0, none⟩))).putObj w1.heap.size (.deferred none)).cell? ⟨w.heap.size + 2, 0, none⟩ = some (.pointer (some ⟨b, 0, none⟩)) := by
      refine cell_but hb2 (p := ⟨w.heap.size + 2, 0, none⟩) ?_ (by have := HZ.out; simp; omega)
      refine cl_of (cs := #[.pointer (some ⟨b, 0, none⟩)]) (t := 57) ?_ 0
      simp [World.setCell, Array.getElem?_modify, hI.res]
    have HCR := Lib.hid hcr
    have HKK := Lib.hid hK'
    have HB := Lib.hid hb
    clear hI hbox hs hK' hb2 hcr hb
    gi_wp2
    refine ⟨by simp, .inl ⟨_, _, rfl, run_takeDeferred HKK.out, ?_⟩⟩
    have hcr := HCR.out
    refine ⟨.pointer (some ⟨b, 0, none⟩), by simp [results, Try.results35, go_sem, hcr], by rw [HB.out]; rfl, HEND.out⟩
  case stop =>
    rintro D c pre W rfl hpre hX hK
    obtain rfl := hX.c
    have hb2 : But [w1.heap.size] W (W.putObj w1.heap.size (.deferred none)) := but_putObj _ hK
    have HEND := Lib.hid (show But [] w (W.putObj w1.heap.size (.deferred none)) from hX.but.trans hb2 (fun x hx => .inr (by have := HZ.out; simp at hx; omega)))
    have hcr : (W.putObj w1.heap.size (.deferred none)).cell? ⟨w.heap.size + 2, 0, none⟩ = some (.pointer none) := cell_but hb2 (p := ⟨w.heap.size + 2, 0, none⟩) (cl_of hX.res 0) (by have := HZ.out; simp; omega)
    have HCR := Lib.hid hcr
    have HN := Lib.hid (HT.out.none_down hX.no hpre)
    clear hX hb2 hcr
    gi_wp2
    refine ⟨by simp, .inl ⟨_, _, rfl, run_takeDeferred hK, ?_⟩⟩
    have hcr := HCR.out
    refine ⟨.pointer none, by simp [results, Try.results35, go_sem, hcr], by rw [HN.out]; rfl, HEND.out⟩
  case throw =>
    rintro D pre chain W _ h _ _
    exact h.elim
end Go.Proofs.Ytpoinhfkgnkedaa.M
