/-
  place: the number that a key's four bytes are.
-/
import Derived.Test.YtkgoblpddjpcnaaGreatLow
namespace Go.Proofs.YtkgoblpddjpcnaaGreat.M
open Go.RowKit Go.Shelf
set_option linter.unusedVariables false
set_option linter.unusedSectionVars false
set_option linter.unusedSimpArgs false
attribute [local go_sem] Oper.semAt_some
def sumK (xs : List (Int × Int)) : Int := xs.foldl (fun u x => wrap64 (u + wrap64 (x.1 * wrap64 x.2))) 0
theorem sumK_snoc (xs : List (Int × Int)) (x : Int × Int) : sumK (xs ++ [x]) = wrap64 (sumK xs + wrap64 (x.1 * wrap64 x.2)) := by simp [sumK]
theorem cell_new_l (W : World) (v : Value) (t : TypeId) : (W.alloc (.cells #[v] t)).cell? ⟨W.heap.size, 0, none⟩ = some v ∧ (W.alloc (.cells #[v] t)).frozen? ⟨W.heap.size, 0, none⟩ = false := by
  have h : (W.alloc (.cells #[v] t)).heap[W.heap.size]? = some (.cells #[v] t) := Array.getElem?_push_size
  exact ⟨cl_of h 0, by unfold World.frozen?; rw [h]; simp⟩
theorem cell_alloc_l {W : World} {a : Addr} {v : Value} (o : Obj) (h : W.cell? a = some v) : (W.alloc o).cell? a = some v := cell_kept h (World.grownBy_alloc W o none) (fun r e => by cases e)
theorem frozen_alloc_l {W : World} {a : Addr} {v : Value} (o : Obj) (h : W.cell? a = some v) (hf : W.frozen? a = false) : (W.alloc o).frozen? a = false := (frozen_kept h (World.grownBy_alloc W o none) (fun r e => by cases e)).trans hf
theorem place_no (a : Option Addr) (n c : Nat) (w : World) (hn : n ≠ 4) : Calls Tryz.prog 39 #[.slice a n c] w fun e w' => e = thrown 2 ∧ w = w' := by
  have b1 : ((n : Int) == 4) = false := by simp; omega
  go_enter Tryz.func39, Tryz.ntmps39
  go_wp2_with (go_at_call 22; refine (must_no _ _).mono ?_; rintro e w1 ⟨he, rfl⟩; dsimp only [thrown] at he; subst he)
  exact ⟨rfl, rfl, rfl⟩
set_option maxRecDepth 100000 in
set_option maxHeartbeats 2000000 in
theorem place_w (n : Nat) (hn : 6 ≤ n) (ad : Addr) (c : Nat) (k0 k1 k2 k3 : Int) (w : World) (hL : ∀ j (b : Int), [k0, k1, k2, k3][j]? = some b → w.cell? (ad.add j) = some (.int .u8 b)) :
    CallsIn Fence.wide n Tryz.prog 39 #[.slice (some ad) 4 c] w fun e W' => e = .returned (.int .i64 (sumK (keyItems k0 k1 k2 k3))) ∧ Below w.heap.size w W' := by
  have h1 : 1 ≤ n := by omega
  have had : ad.block < w.heap.size := by have := cell_lt (hL 0 k0 rfl); rwa [block_of_add] at this
  refine callsIn_of_wp_marks Tryz.func39 rfl trivial ?_ rfl
  simp only [Tryz.ntmps39, List.size_toArray, List.length_cons, List.length_nil, Nat.reduceAdd, Nat.reduceSub, Array.replicate_succ, Array.replicate_zero, List.push_toArray, List.append_toArray, List.nil_append, List.cons_append]
  gi_wp2_with (first | (refine ⟨trivial, ?_⟩; gi_at_call 22; refine (callsIn_wide.2 (must_yes _ _)).mono ?_; rintro e w' ⟨rfl, rfl⟩) | (refine ⟨trivial, ?_⟩; gi_at_call 52; refine (low_in Fence.wide (n - 1) trivial rfl _ ⟨_, _, _, rfl⟩ _).mono ?_; rintro e w' ⟨rfl, rfl⟩))
  have c0 := cell_new_l w (.int .i64 0) 3
  have c1 := cell_new_l (w.alloc (.cells #[.int .i64 0] 3)) (.slice (some ad) 4 c) 36
  simp only [World.size_alloc] at c1
  have hB0 : Below w.heap.size w ((w.alloc (.cells #[.int .i64 0] 3)).alloc (.cells #[.slice (some ad) 4 c] 36)) := ((Below.refl _ w).alloc (Nat.le_refl _) _).alloc (by simp) _
  refine wpIn_rangeFunc_ownF rfl h1 (gf := 79) (lb := #[.pointer (some ⟨w.heap.size + 1, 0, none⟩)]) rfl trivial (enters_of Tryz.func79 (by kernel_rfl) rfl)
    (low_stops Fence.wide (n - 1) trivial rfl (by omega) (w.heap.size + 1) w.heap.size ad c k0 k1 k2 k3 _ (by simp) (by simp; omega) had c1.1 (fun j b hj => (hB0.cell (p := ad.add j) (by rw [block_of_add]; exact had)).trans (hL j b hj))) belowK_t (belowK_b (by simp; omega)) (Below.refl _ _) (fun _ => rfl)
    (fun pre W => (W.cell? ⟨w.heap.size, 0, none⟩ = some (.int .i64 (sumK pre)) ∧ W.frozen? ⟨w.heap.size, 0, none⟩ = false) ∧ Below w.heap.size w W)
    (fun _ _ _ => False)
    (OwnFrom.and (Own.from (fun s A B row hs hg hr => ⟨cell_kept hs.1 hg hr, (frozen_kept hs.1 hg hr).trans hs.2⟩) _) (ownFrom_below (Nat.le_refl _) (by simp; omega)))
    (fun _ _ _ _ _ hs _ _ => hs)
    ⟨⟨cell_alloc_l _ c0.1, frozen_alloc_l _ c0.1 c0.2⟩, hB0⟩
    (fun x => { tmps := #[.slice (some ad) 4 c, undef, .int .i64 0, .pointer (some ⟨w.heap.size, 0, none⟩), .int .i64 x.1, .int .u8 x.2, .slice (some ad) 4 c, .int .i64 4, .bool true, .tuple #[], .slice (some ad) 4 c, .func (.func 79) #[] #[.pointer (some ⟨w.heap.size + 1, 0, none⟩)], .int .i64 x.1, .int .u8 x.2, undef, undef, undef, undef, undef, undef, undef], defers := [] }) ?assign ?body ?done ?stop
  case assign =>
    intro l x W K hK
    gi_wp2
    exact hK
  case body =>
    rintro l pre x W ⟨⟨hc, hf⟩, hB⟩ _
    gi_wp2_with fail
    exact ⟨KeepsOthers.setCell _ _ _, (Below.refl w.heap.size W).setCell (p := ⟨w.heap.size, 0, none⟩) (Nat.le_refl _) _, ⟨by rw [sumK_snoc]; exact World.cell?_setCell_same' _ _ _ (by rw [hc]; rfl), by rw [World.frozen?_setCell]; exact hf⟩, hB.setCell (p := ⟨w.heap.size, 0, none⟩) (Nat.le_refl _) _⟩
  case done =>
    rintro D ys W hD rfl ⟨⟨hc, hf⟩, hB⟩ hK
    gi_wp2
    refine ⟨by simp, .inl ⟨_, _, rfl, run_takeDeferred hK, ?_⟩⟩
    exact ⟨_, results_tmp rfl _ _ _, rfl, hB.trans (belowK_b (w := w) (Nat.le_refl _) W D _ _ (by simp at hD; omega) hK rfl rfl)⟩
  case stop =>
    rintro D c pre W _ _ h _
    exact h.elim
def keyNum (k0 k1 k2 k3 : Int) : Int := k0 + 256 * k1 + 65536 * k2 + 16777216 * k3
theorem sumK_num {k0 k1 k2 k3 : Int} (h0 : 0 ≤ k0 ∧ k0 ≤ 255) (h1 : 0 ≤ k1 ∧ k1 ≤ 255) (h2 : 0 ≤ k2 ∧ k2 ≤ 255) (h3 : 0 ≤ k3 ∧ k3 ≤ 255) : sumK (keyItems k0 k1 k2 k3) = keyNum k0 k1 k2 k3 := by
  have hw : ∀ x : Int, 0 ≤ x → x ≤ 9223372036854775807 → wrap64 x = x := fun x a b => IntWalk.wrap64_in _ (by omega)
  simp only [sumK, keyItems, List.foldl, keyNum]
  rw [hw k0 (by omega) (by omega), hw k1 (by omega) (by omega), hw k2 (by omega) (by omega), hw k3 (by omega) (by omega)]
  rw [hw (1 * k0) (by omega) (by omega), hw (256 * k1) (by omega) (by omega), hw (65536 * k2) (by omega) (by omega), hw (16777216 * k3) (by omega) (by omega)]
  rw [hw (0 + 1 * k0) (by omega) (by omega), hw (0 + 1 * k0 + 256 * k1) (by omega) (by omega), hw (0 + 1 * k0 + 256 * k1 + 65536 * k2) (by omega) (by omega), hw (0 + 1 * k0 + 256 * k1 + 65536 * k2 + 16777216 * k3) (by omega) (by omega)]
  omega
/-- A key of four bytes. -/
theorem place_yes (ad : Addr) (c : Nat) (k0 k1 k2 k3 : Int) (w : World) (hL : ∀ (j : Nat) (b : Int), [k0, k1, k2, k3][j]? = some b → w.cell? (ad.add j) = some (.int .u8 b)) :
    Calls Tryz.prog 39 #[.slice (some ad) 4 c] w fun e w' => e = .returned (.int .i64 (sumK (keyItems k0 k1 k2 k3))) ∧ But [] w w' :=
  (callsIn_wide.1 (place_w 6 (Nat.le_refl _) ad c k0 k1 k2 k3 w hL)).mono fun _ _ ⟨he, hb⟩ => ⟨he, But.of_below hb⟩
end Go.Proofs.YtkgoblpddjpcnaaGreat.M
