/-
  Room: the caller. (Under way.)
-/
import Derived.Test.YtlajffbjkgedhaaRoom
import Derived.Test.YtlajffbjkgedhaaRoomA
import Derived.Laws.EntriesVeiled
namespace Go.Proofs.Ytlajffbjkgedhaa.M
open Go.RowKit Go.Shelf
set_option linter.unusedVariables false
set_option linter.unusedSectionVars false
set_option linter.unusedSimpArgs false
attribute [local go_sem] Oper.semAt_some
def sumW (xs : List Sl) : Int := xs.foldl (fun u x => wrap64 (u + wrap64 (8 + x.2.1))) 0
theorem sumW_snoc (xs : List Sl) (x : Sl) : sumW (xs ++ [x]) = wrap64 (sumW xs + wrap64 (8 + x.2.1)) := by simp [sumW]
theorem cell_new_l (W : World) (v : Value) (t : TypeId) : (W.alloc (.cells #[v] t)).cell? ⟨W.heap.size, 0, none⟩ = some v ∧ (W.alloc (.cells #[v] t)).frozen? ⟨W.heap.size, 0, none⟩ = false := by
  have h : (W.alloc (.cells #[v] t)).heap[W.heap.size]? = some (.cells #[v] t) := Array.getElem?_push_size
  exact ⟨cell_of h 0, frozen_of h 0⟩
theorem cell_alloc_l {W : World} {a : Addr} {v : Value} (o : Obj) (h : W.cell? a = some v) : (W.alloc o).cell? a = some v := cell_kept h (World.grownBy_alloc W o none) (fun r e => by cases e)
theorem frozen_alloc_l {W : World} {a : Addr} {v : Value} (o : Obj) (h : W.cell? a = some v) (hf : W.frozen? a = false) : (W.alloc o).frozen? a = false := (frozen_kept h (World.grownBy_alloc W o none) (fun r e => by cases e)).trans hf
set_option maxRecDepth 100000 in
set_option maxHeartbeats 2000000 in
theorem room_w (n : Nat) (hn : 6 ≤ n) (R : Nat) (p0 : Option Addr) (l : Value) (size : Int) (xs : List Sl) (w : World) (hR : w.heap[R]? = some (.cells #[.pointer p0, l, .int .i64 size] 52)) (hs : 0 < size) (hL : IsList w.heap.size w p0 xs) :
    CallsIn Fence.wide n Try.prog 19 #[.pointer (some ⟨R, 0, none⟩)] w fun e W' => e = .returned (.int .i64 (wrap64 (size - sumW xs))) ∧ Below w.heap.size w W' := by
  have h1 : 1 ≤ n := by omega
  refine callsIn_of_wp_marks Try.func19 rfl trivial ?_ rfl
  simp only [Try.ntmps19, List.size_toArray, List.length_cons, List.length_nil, Nat.reduceAdd, Nat.reduceSub, Array.replicate_succ, Array.replicate_zero, List.push_toArray, List.append_toArray, List.nil_append, List.cons_append]
  gi_wp2_with (first | (refine ⟨trivial, ?_⟩; gi_at_call 26; refine (callsIn_wide.2 (known_yes R _ l size _ hR hs)).mono ?_; rintro e w' ⟨rfl, rfl⟩) | (refine ⟨trivial, ?_⟩; gi_at_call 31; refine (all_in Fence.wide (n - 1) trivial rfl _ _).mono ?_; rintro e w' ⟨rfl, rfl⟩))
  have c0 := cell_new_l w (.int .i64 0) 3
  have c1 := cell_new_l (w.alloc (.cells #[.int .i64 0] 3)) (.func (.func 30) #[] #[.pointer (some ⟨w.heap.size, 0, none⟩)]) 44
  have c2 := cell_new_l ((w.alloc (.cells #[.int .i64 0] 3)).alloc (.cells #[.func (.func 30) #[] #[.pointer (some ⟨w.heap.size, 0, none⟩)]] 44)) (.pointer (some ⟨R, 0, none⟩)) 103
  simp only [World.size_alloc] at c1 c2
  have hB0 : Below w.heap.size w (((w.alloc (.cells #[.int .i64 0] 3)).alloc (.cells #[.func (.func 30) #[] #[.pointer (some ⟨w.heap.size, 0, none⟩)]] 44)).alloc (.cells #[.pointer (some ⟨R, 0, none⟩)] 103)) := (((Below.refl _ w).alloc (Nat.le_refl _) _).alloc (by simp) _).alloc (by simp; omega) _
  have hRl : R < w.heap.size := lt_of hR
  have hR0 := (hB0.cell (p := ⟨R, 0, none⟩) hRl).trans (cell_of hR 0)
  refine wpIn_rangeFunc_ownF rfl h1 (gf := 37) (lb := #[.pointer (some ⟨w.heap.size + 1 + 1, 0, none⟩)]) rfl trivial (enters_of Try.func37 (by kernel_rfl) rfl)
    (all_stops Fence.wide (n - 1) trivial rfl (by omega) (w.heap.size + 1 + 1) R w.heap.size p0 xs _ (by simp) (by simp; omega) hRl c2.1 hR0 (hL.below hB0)) belowK_t (belowK_b (by simp; omega)) (Below.refl _ _) (fun _ => rfl)
    (fun pre W => (W.cell? ⟨w.heap.size, 0, none⟩ = some (.int .i64 (sumW pre)) ∧ W.frozen? ⟨w.heap.size, 0, none⟩ = false ∧ W.cell? ⟨w.heap.size + 1, 0, none⟩ = some (.func (.func 30) #[] #[.pointer (some ⟨w.heap.size, 0, none⟩)])) ∧ Below w.heap.size w W)
    (fun _ _ _ => False)
    (OwnFrom.and (Own.from (fun s A B row hs hg hr => ⟨cell_kept hs.1 hg hr, (frozen_kept hs.1 hg hr).trans hs.2.1, cell_kept hs.2.2 hg hr⟩) _) (ownFrom_below (Nat.le_refl _) (by simp; omega)))
    (fun _ _ _ _ _ hs _ _ => hs)
    ⟨⟨cell_alloc_l _ (cell_alloc_l _ c0.1), frozen_alloc_l _ (cell_alloc_l _ c0.1) (frozen_alloc_l _ c0.1 c0.2), cell_alloc_l _ c1.1⟩, hB0⟩
    (fun x => { tmps := #[.pointer (some ⟨R, 0, none⟩), undef, .int .i64 0, .pointer (some ⟨w.heap.size, 0, none⟩), .pointer (some ⟨w.heap.size + 1, 0, none⟩), .slice x.1 x.2.1 x.2.2, .pointer (some ⟨R, 0, none⟩), .bool true, .bool false, .func (.func 30) #[] #[.pointer (some ⟨w.heap.size, 0, none⟩)], .pointer (some ⟨R, 0, none⟩), .pointer (some ⟨R, 0, none⟩), .pointer (some ⟨R, 0, none⟩), .func (.func 37) #[] #[.pointer (some ⟨w.heap.size + 1 + 1, 0, none⟩)], .slice x.1 x.2.1 x.2.2, undef, undef, undef, undef, undef, undef, undef, undef, undef], defers := [] }) ?assign ?body ?done ?stop
  case assign =>
    intro l x W K hK
    gi_wp2
    exact hK
  case body =>
    rintro l pre x W ⟨⟨hc, hf, hg⟩, hB⟩ _
    gi_wp2_with fail
    refine ⟨trivial, fun _ => (by omega), ?_⟩
    refine (CallsIn.inRound l (callsIn_wide.2 (room1 _ _ _ _ _ _ hc hf))).mono ?_
    rintro e w' ⟨rfl, rfl⟩
    gi_wp2
    exact ⟨KeepsOthers.setCell _ _ _, (Below.refl w.heap.size W).setCell (p := ⟨w.heap.size, 0, none⟩) (Nat.le_refl _) _, ⟨by rw [sumW_snoc]; exact World.cell?_setCell_same' _ _ _ (by rw [hc]; rfl), by rw [World.frozen?_setCell]; exact hf, by rw [World.cell?_setCell_other _ _ _ _ (by intro h; have := congrArg Addr.block h; simp at this)]; exact hg⟩, hB.setCell (p := ⟨w.heap.size, 0, none⟩) (Nat.le_refl _) _⟩
  case done =>
    rintro D ys W hD rfl ⟨⟨hc, hf, hg⟩, hB⟩ hK
    have hR1 := (hB.cell (p := ⟨R, 2, none⟩) hRl).trans (cell_of hR 2)
    gi_wp2
    gi_region
    all_goals
      gi_wp2
      have hKd : W.drew.heap[D]? = some (.deferred (some [])) := hK
      have hBd : Below w.heap.size w W.drew := hB.drew
      refine ⟨by simp, .inl ⟨_, _, rfl, run_takeDeferred hKd, ?_⟩⟩
      exact ⟨_, results_tmp rfl _ _ _, rfl, hBd.trans (belowK_b (w := w) (Nat.le_refl _) W.drew D _ _ (by simp at hD; omega) hKd rfl rfl)⟩
  case stop =>
    rintro D c pre W _ _ h _
    exact h.elim
end Go.Proofs.Ytlajffbjkgedhaa.M
