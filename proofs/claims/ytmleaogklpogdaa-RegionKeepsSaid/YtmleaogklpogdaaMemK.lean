/-
  What is read of a part: the closure's contract.
-/
import Derived.Test.YtmleaogklpogdaaMemJ
import Derived.Deep.RegionWith
import Derived.StillTailTactics
namespace Go.Proofs.Ytmleaogklpogdaa.M
open Go.RowKit
set_option linter.unusedVariables false
set_option linter.unusedSectionVars false
set_option linter.unusedSimpArgs false
theorem wp_region_tail {P : Program} {id : Nat} {Q : Exit → Act → World → Prop} {a : Act} {w : World} {l : List Oper} (n : Nat) (hm : P.follows .mixedOrders = true) (hB : Region.lexTailB .any l.toArray n = true)
    (h : wpStill P l.toArray w.drew (fun a' => wpList P l.toArray Q (l.drop n) a' w.drew) (l.take n) a) : (Code.region id l.toArray true).wp P Q a w := wp_region_still_tail n hm hB h
theorem set_cell {w : World} {e : Nat} {v : Value} {t : TypeId} (h : w.heap[e]? = some (.cells #[v] t)) (u : Value) : (w.setCell ⟨e, 0, none⟩ u).heap[e]? = some (.cells #[u] t) := by
  simp [World.setCell, Array.getElem?_modify, h]
theorem own_shape {w : World} {v : Value} {xs : List Value} (h : Own w v xs) : ∃ a n c, v = .slice a n c := by
  rcases h.2 with ⟨rfl, _⟩ | ⟨g, cap, cur, rfl, _⟩ <;> exact ⟨_, _, _, rfl⟩
set_option maxHeartbeats 2000000 in
theorem readF_nil (c p q e o m : Nat) (kind : Int) (v : Value) (bs : List Value) (w : World) (hc : w.heap[c]? = some (.cells #[.int .u8 kind, .slice none 0 0] 51)) (hown : Own w (.slice none 0 0) bs) (hx : Bytes bs) (hfit : o + m ≤ bs.length) (hlen : bs.length ≤ 4096)
    (hp : w.heap[p]? = some (.cells #[.int .i64 o] 2)) (hq : w.heap[q]? = some (.cells #[.int .i64 m] 3)) (he : w.heap[e]? = some (.cells #[v] 33)) :
    Calls Try.prog 20 (#[.pointer (some ⟨c, 0, none⟩)] ++ #[.pointer (some ⟨p, 0, none⟩), .pointer (some ⟨q, 0, none⟩), .pointer (some ⟨e, 0, none⟩)]) w fun x w' => x = nothing ∧ ∃ v', w'.heap[e]? = some (.cells #[v'] 33) ∧ Own w' v' ((bs.drop o).take m) ∧ (∀ k, v'.ownBlock = some k → w.heap.size ≤ k) ∧ But [e] w w' := by
  have cp : w.cell? ⟨p, 0, none⟩ = some (.int .i64 o) := cell_of hp 0
  have cq : w.cell? ⟨q, 0, none⟩ = some (.int .i64 m) := cell_of hq 0
  have hlt := lt_of he
  have hB : ∀ u ∈ (bs.drop o).take m, u.oneCell' = true := fun u hu => hx.one u (List.mem_of_mem_drop (List.mem_of_mem_take hu))
  have hL : ((bs.drop o).take m).length = m := by rw [List.length_take, List.length_drop]; omega
  show Calls Try.prog 20 #[.pointer (some ⟨c, 0, none⟩), .pointer (some ⟨p, 0, none⟩), .pointer (some ⟨q, 0, none⟩), .pointer (some ⟨e, 0, none⟩)] w _
  obtain rfl : bs = [] := List.eq_nil_of_length_eq_zero (by have := hown.sees; rcases this with ⟨_, h⟩ | ⟨ad, c, h, _⟩; simp [h]; cases h)
  simp only [List.length_nil] at hfit
  obtain rfl : o = 0 := by omega
  obtain rfl : m = 0 := by omega
  have c1 : w.cell? ⟨c, 1, none⟩ = some (.slice none 0 0) := cell_of hc 1
  have HS : Sees w.drew (.slice none 0 0) ((([] : List Value).drop 0).take 0) := .inl ⟨rfl, rfl⟩
  have hw0 : IntKind.i64.wrap 0 = 0 := by decide
  go_enter Try.func20, Try.ntmps20
  go_wp2
  refine wp_region_tail 9 (by kernel_rfl) (by kernel_rfl) ?_
  simp only [List.take_succ_cons, List.take_zero, List.drop_succ_cons, List.drop_zero]
  repeat still_step
  refine wpStill_nil ?_
  go_wp2_with (go_at_call 18; refine (clone _ ((([] : List Value).drop 0).take 0) _ HS (by simp) (by simp)).mono ?_; rintro x w1 ⟨v1, rfl, hown1, hnew1, hbut1⟩; obtain ⟨a1, n1, cap1, rfl⟩ := own_shape hown1; have ce : w1.cell? ⟨e, 0, none⟩ = some v := cell_of (hbut1.heap he (by simp)) 0; have fe : w1.frozen? ⟨e, 0, none⟩ = false := frozen_of (hbut1.heap he (by simp)) 0)
  all_goals
    go_end0
    refine ⟨rfl, .slice a1 n1 cap1, ?_, hown1.but ((But.refl [e] _).setCell (.inl (by simp)) _) (fun k hk => ?_), hnew1, (((But.refl [e] w).drew).trans (M := []) hbut1 (by simp)).setCell (.inl (by simp)) _⟩
    · have h1 : w1.heap[e]? = some (.cells #[v] 33) := hbut1.heap he (by simp)
      exact set_cell h1 _
    · have := hnew1 k hk
      have h2 : w.drew.heap.size = w.heap.size := rfl
      simp; omega
set_option maxHeartbeats 2000000 in
theorem readF_end (c p q e o m : Nat) (kind : Int) (v : Value) (g cap : Nat) (bs : List Value) (w : World) (hc : w.heap[c]? = some (.cells #[.int .u8 kind, .slice (some ⟨g, 0, none⟩) bs.length cap] 51)) (hown : Own w (.slice (some ⟨g, 0, none⟩) bs.length cap) bs) (hcap : bs.length ≤ cap) (hx : Bytes bs) (hcut : cap = o) (hfit : o + m ≤ bs.length) (hlen : bs.length ≤ 4096)
    (hp : w.heap[p]? = some (.cells #[.int .i64 o] 2)) (hq : w.heap[q]? = some (.cells #[.int .i64 m] 3)) (he : w.heap[e]? = some (.cells #[v] 33)) :
    Calls Try.prog 20 (#[.pointer (some ⟨c, 0, none⟩)] ++ #[.pointer (some ⟨p, 0, none⟩), .pointer (some ⟨q, 0, none⟩), .pointer (some ⟨e, 0, none⟩)]) w fun x w' => x = nothing ∧ ∃ v', w'.heap[e]? = some (.cells #[v'] 33) ∧ Own w' v' ((bs.drop o).take m) ∧ (∀ k, v'.ownBlock = some k → w.heap.size ≤ k) ∧ But [e] w w' := by
  have cp : w.cell? ⟨p, 0, none⟩ = some (.int .i64 o) := cell_of hp 0
  have cq : w.cell? ⟨q, 0, none⟩ = some (.int .i64 m) := cell_of hq 0
  have hlt := lt_of he
  have hB : ∀ u ∈ (bs.drop o).take m, u.oneCell' = true := fun u hu => hx.one u (List.mem_of_mem_drop (List.mem_of_mem_take hu))
  have hL : ((bs.drop o).take m).length = m := by rw [List.length_take, List.length_drop]; omega
  show Calls Try.prog 20 #[.pointer (some ⟨c, 0, none⟩), .pointer (some ⟨p, 0, none⟩), .pointer (some ⟨q, 0, none⟩), .pointer (some ⟨e, 0, none⟩)] w _
  have c1 : w.cell? ⟨c, 1, none⟩ = some (.slice (some ⟨g, 0, none⟩) bs.length cap) := cell_of hc 1
  have hle : o ≤ bs.length := by omega
  have hle2 : o + m ≤ cap := by omega
  have hcell : ∀ j u, ((bs.drop o).take m)[j]? = some u → w.drew.cell? ⟨g, o + j, none⟩ = some u := fun j u hj => by
    rw [List.getElem?_take] at hj
    split at hj
    · rw [List.getElem?_drop] at hj
      have := hown.cells (g := g) rfl (o + j) u hj
      rw [add_at, Nat.zero_add] at this
      exact this
    · cases hj
  obtain rfl := hcut
  obtain rfl : m = 0 := by omega
  have HS : Sees w.drew (.slice (some ⟨g, 0, none⟩) 0 0) ((bs.drop cap).take 0) := .inr ⟨⟨g, 0, none⟩, 0, rfl, by simp, by simp⟩
  have hw1 : IntKind.i64.wrap (cap : Int) = (cap : Int) := by rw [IntKind.wrap_i64]; omega
  have hwe : (IntKind.i64.wrap (cap : Int)).toNat - cap = 0 := by rw [hw1]; omega
  go_enter Try.func20, Try.ntmps20
  go_wp2
  refine wp_region_tail 9 (by kernel_rfl) (by kernel_rfl) ?_
  simp only [List.take_succ_cons, List.take_zero, List.drop_succ_cons, List.drop_zero]
  repeat still_step
  refine wpStill_nil ?_
  go_wp2_with (go_at_call 18; refine (clone _ ((bs.drop cap).take 0) _ HS hB (by omega)).mono ?_; rintro x w1 ⟨v1, rfl, hown1, hnew1, hbut1⟩; obtain ⟨a1, n1, cap1, rfl⟩ := own_shape hown1; have ce : w1.cell? ⟨e, 0, none⟩ = some v := cell_of (hbut1.heap he (by simp)) 0; have fe : w1.frozen? ⟨e, 0, none⟩ = false := frozen_of (hbut1.heap he (by simp)) 0)
  all_goals
    go_end0
    refine ⟨rfl, .slice a1 n1 cap1, ?_, hown1.but ((But.refl [e] _).setCell (.inl (by simp)) _) (fun k hk => ?_), hnew1, (((But.refl [e] w).drew).trans (M := []) hbut1 (by simp)).setCell (.inl (by simp)) _⟩
    · have h1 : w1.heap[e]? = some (.cells #[v] 33) := hbut1.heap he (by simp)
      exact set_cell h1 _
    · have := hnew1 k hk
      have h2 : w.drew.heap.size = w.heap.size := rfl
      simp; omega
set_option maxHeartbeats 2000000 in
theorem readF_mid (c p q e o m : Nat) (kind : Int) (v : Value) (g cap : Nat) (bs : List Value) (w : World) (hc : w.heap[c]? = some (.cells #[.int .u8 kind, .slice (some ⟨g, 0, none⟩) bs.length cap] 51)) (hown : Own w (.slice (some ⟨g, 0, none⟩) bs.length cap) bs) (hcap : bs.length ≤ cap) (hx : Bytes bs) (hcut : ¬ cap = o) (hfit : o + m ≤ bs.length) (hlen : bs.length ≤ 4096)
    (hp : w.heap[p]? = some (.cells #[.int .i64 o] 2)) (hq : w.heap[q]? = some (.cells #[.int .i64 m] 3)) (he : w.heap[e]? = some (.cells #[v] 33)) :
    Calls Try.prog 20 (#[.pointer (some ⟨c, 0, none⟩)] ++ #[.pointer (some ⟨p, 0, none⟩), .pointer (some ⟨q, 0, none⟩), .pointer (some ⟨e, 0, none⟩)]) w fun x w' => x = nothing ∧ ∃ v', w'.heap[e]? = some (.cells #[v'] 33) ∧ Own w' v' ((bs.drop o).take m) ∧ (∀ k, v'.ownBlock = some k → w.heap.size ≤ k) ∧ But [e] w w' := by
  have cp : w.cell? ⟨p, 0, none⟩ = some (.int .i64 o) := cell_of hp 0
  have cq : w.cell? ⟨q, 0, none⟩ = some (.int .i64 m) := cell_of hq 0
  have hlt := lt_of he
  have hB : ∀ u ∈ (bs.drop o).take m, u.oneCell' = true := fun u hu => hx.one u (List.mem_of_mem_drop (List.mem_of_mem_take hu))
  have hL : ((bs.drop o).take m).length = m := by rw [List.length_take, List.length_drop]; omega
  show Calls Try.prog 20 #[.pointer (some ⟨c, 0, none⟩), .pointer (some ⟨p, 0, none⟩), .pointer (some ⟨q, 0, none⟩), .pointer (some ⟨e, 0, none⟩)] w _
  have c1 : w.cell? ⟨c, 1, none⟩ = some (.slice (some ⟨g, 0, none⟩) bs.length cap) := cell_of hc 1
  have hle : o ≤ bs.length := by omega
  have hle2 : o + m ≤ cap := by omega
  have hcell : ∀ j u, ((bs.drop o).take m)[j]? = some u → w.drew.cell? ⟨g, o + j, none⟩ = some u := fun j u hj => by
    rw [List.getElem?_take] at hj
    split at hj
    · rw [List.getElem?_drop] at hj
      have := hown.cells (g := g) rfl (o + j) u hj
      rw [add_at, Nat.zero_add] at this
      exact this
    · cases hj
  have HS : Sees w.drew (.slice (some ⟨g, o, none⟩) m (cap - o)) ((bs.drop o).take m) := .inr ⟨⟨g, o, none⟩, cap - o, by rw [hL], by omega, fun j u hj => by rw [add_at]; exact hcell j u hj⟩
  have hw1 : IntKind.i64.wrap ((o : Int) + m) = (o : Int) + m := by rw [IntKind.wrap_i64]; omega
  have hwa : 0 ≤ IntKind.i64.wrap ((o : Int) + m) := by rw [hw1]; omega
  have hwb : IntKind.i64.wrap ((o : Int) + m) ≤ (cap : Int) := by rw [hw1]; omega
  have hwc : o ≤ (IntKind.i64.wrap ((o : Int) + m)).toNat := by rw [hw1]; omega
  have hwd : (IntKind.i64.wrap ((o : Int) + m)).toNat - o = m := by rw [hw1]; omega
  clear hw1
  go_enter Try.func20, Try.ntmps20
  go_wp2
  refine wp_region_tail 9 (by kernel_rfl) (by kernel_rfl) ?_
  simp only [List.take_succ_cons, List.take_zero, List.drop_succ_cons, List.drop_zero]
  repeat still_step
  refine wpStill_nil ?_
  go_wp2_with (go_at_call 18; refine (clone _ ((bs.drop o).take m) _ HS hB (by omega)).mono ?_; rintro x w1 ⟨v1, rfl, hown1, hnew1, hbut1⟩; obtain ⟨a1, n1, cap1, rfl⟩ := own_shape hown1; have ce : w1.cell? ⟨e, 0, none⟩ = some v := cell_of (hbut1.heap he (by simp)) 0; have fe : w1.frozen? ⟨e, 0, none⟩ = false := frozen_of (hbut1.heap he (by simp)) 0)
  all_goals
    go_end0
    refine ⟨rfl, .slice a1 n1 cap1, ?_, hown1.but ((But.refl [e] _).setCell (.inl (by simp)) _) (fun k hk => ?_), hnew1, (((But.refl [e] w).drew).trans (M := []) hbut1 (by simp)).setCell (.inl (by simp)) _⟩
    · have h1 : w1.heap[e]? = some (.cells #[v] 33) := hbut1.heap he (by simp)
      exact set_cell h1 _
    · have := hnew1 k hk
      have h2 : w.drew.heap.size = w.heap.size := rfl
      simp; omega
theorem readF (c p q e o m : Nat) (kind : Int) (sl v : Value) (bs : List Value) (w : World) (hc : w.heap[c]? = some (.cells #[.int .u8 kind, sl] 51)) (hown : Own w sl bs) (hx : Bytes bs) (hfit : o + m ≤ bs.length) (hlen : bs.length ≤ 4096)
    (hp : w.heap[p]? = some (.cells #[.int .i64 o] 2)) (hq : w.heap[q]? = some (.cells #[.int .i64 m] 3)) (he : w.heap[e]? = some (.cells #[v] 33)) :
    Calls Try.prog 20 (#[.pointer (some ⟨c, 0, none⟩)] ++ #[.pointer (some ⟨p, 0, none⟩), .pointer (some ⟨q, 0, none⟩), .pointer (some ⟨e, 0, none⟩)]) w fun x w' => x = nothing ∧ ∃ v', w'.heap[e]? = some (.cells #[v'] 33) ∧ Own w' v' ((bs.drop o).take m) ∧ (∀ k, v'.ownBlock = some k → w.heap.size ≤ k) ∧ But [e] w w' := by
  have cp : w.cell? ⟨p, 0, none⟩ = some (.int .i64 o) := cell_of hp 0
  have cq : w.cell? ⟨q, 0, none⟩ = some (.int .i64 m) := cell_of hq 0
  have hlt := lt_of he
  have hB : ∀ u ∈ (bs.drop o).take m, u.oneCell' = true := fun u hu => hx.one u (List.mem_of_mem_drop (List.mem_of_mem_take hu))
  have hL : ((bs.drop o).take m).length = m := by rw [List.length_take, List.length_drop]; omega
  show Calls Try.prog 20 #[.pointer (some ⟨c, 0, none⟩), .pointer (some ⟨p, 0, none⟩), .pointer (some ⟨q, 0, none⟩), .pointer (some ⟨e, 0, none⟩)] w _
  rcases hown.2 with ⟨rfl, hn⟩ | ⟨g, cap, cur, rfl, h0, hg, hcap, hmax, hsz, htake⟩
  · exact readF_nil c p q e o m kind v bs w hc hown hx hfit hlen hp hq he
  · by_cases hcut : cap = o
    · exact readF_end c p q e o m kind v g cap bs w hc hown hcap hx hcut hfit hlen hp hq he
    · exact readF_mid c p q e o m kind v g cap bs w hc hown hcap hx hcut hfit hlen hp hq he
end Go.Proofs.Ytmleaogklpogdaa.M
