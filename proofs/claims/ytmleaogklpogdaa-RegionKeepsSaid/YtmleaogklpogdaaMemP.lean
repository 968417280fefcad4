/-
  The methods at a live part: Write.
-/
import Derived.Test.YtmleaogklpogdaaMemO
namespace Go.Proofs.Ytmleaogklpogdaa.M
open Go.RowKit
set_option linter.unusedVariables false
set_option linter.unusedSectionVars false
set_option linter.unusedSimpArgs false
theorem write_bounds (base B b : Nat) (last off : Int) (a : Option Addr) (m cap : Nat) (l : List Part) (p : Part) (w : World) (h : Mem w base B b last l) (hp : p ∈ l) (ho : I64 off) (hm : m ≤ 1000000000000) (hh : Has off m p.bs.length = false) :
    Calls Try.prog 7 #[.pointer (some ⟨B, 0, none⟩), .int .i64 p.num, .int .i64 off, .slice a m cap] w fun e w' => e = .returned (.int .i64 32) ∧ But [] w w' := by
  obtain ⟨hc, hown, hbs, hlen, hk1, hk5⟩ := h.part p hp
  obtain ⟨a2, cap2, hsl⟩ := own_shape' hown
  rw [hsl] at hc
  have hb1 : But [] w ((w.alloc (.cells #[.int .i64 off] 2)).alloc (.cells #[.slice a m cap] 33)) := ((But.refl [] w).alloc _).alloc _
  have h1 := h.new hb1
  obtain ⟨es, clock, hmm, hE⟩ := h1.map
  go_enter Try.func7, Try.ntmps7
  go_wp2_with (go_at_call 19; refine (look_bounds B b p.blk last p.num off m es clock (ents l) _ _ _ h1.cell hmm hE h.wf (h.numWf hp) h.nodup (mem_key hp) p.kind a2 p.bs.length cap2 (hb1.heap hc (by simp)) (by omega) ho ⟨by omega, by omega⟩ hh).mono ?_; rintro e w1 ⟨rfl, hb⟩)
  go_ret
  exact ⟨rfl, hb1.trans hb (by simp)⟩
theorem has_fit {o m n : Nat} (h : o + m ≤ n) : Has o m n = true := by
  simp only [Has, Bool.and_eq_true, decide_eq_true_eq]
  omega
set_option maxHeartbeats 2000000 in
theorem write_ok (base B b o : Nat) (last : Int) (a : Option Addr) (m cap : Nat) (xs : List Value) (l : List Part) (p : Part) (w : World) (h : Mem w base B b last l) (hp : p ∈ l) (hs : Sees w (.slice a m cap) xs) (hx : Bytes xs) (hm : m = xs.length) (hfit : o + xs.length ≤ p.bs.length) :
    Calls Try.prog 7 #[.pointer (some ⟨B, 0, none⟩), .int .i64 p.num, .int .i64 o, .slice a m cap] w fun e w' => e = .returned (.int .i64 0) ∧ Mem w' base B b last (upd l p.num (splice p.bs o xs)) ∧ ∃ L, But L w w' ∧ ∀ x ∈ L, p.sl.ownBlock = some x := by
  obtain ⟨hc, hown, hbs, hlen, hk1, hk5⟩ := h.part p hp
  obtain ⟨a2, cap2, hsl⟩ := own_shape' hown
  have hc' := hc
  rw [hsl] at hc'
  obtain ⟨w2, hw2⟩ : ∃ w2, w2 = (w.alloc (.cells #[.int .i64 o] 2)).alloc (.cells #[.slice a m cap] 33) := ⟨_, rfl⟩
  have hb1 : But [] w w2 := by rw [hw2]; exact ((But.refl [] w).alloc _).alloc _
  have h0 : w2.heap[w.heap.size]? = some (.cells #[.int .i64 o] 2) := by rw [hw2]; exact alloc_lt (alloc_at w _) _
  have h01 : w2.heap[w.heap.size + 1]? = some (.cells #[.slice a m cap] 33) := by
    rw [hw2]
    have := alloc_at (w.alloc (.cells #[.int .i64 o] 2)) (.cells #[.slice a m cap] 33)
    rw [size_alloc] at this
    exact this
  have h1 := h.new hb1
  obtain ⟨es, clock, hmm, hE⟩ := h1.map
  have hW := w4_but w2 o m (.func (.func 21) #[] #[.pointer (some ⟨w.heap.size, 0, none⟩), .pointer (some ⟨w.heap.size + 1, 0, none⟩)]) 0
  have hW2 := hb1.trans hW (by simp)
  have hL := look_ok B b p.blk last p.num o m es clock (ents l) 21 #[.pointer (some ⟨w.heap.size, 0, none⟩), .pointer (some ⟨w.heap.size + 1, 0, none⟩)] w2
    (fun W => Own W p.sl (splice p.bs o xs) ∧ (∃ L, But L w W ∧ ∀ x ∈ L, p.sl.ownBlock = some x) ∧ W.heap[w2.heap.size + 3]? = some (.cells #[.int .i64 0] 29))
    (fun args w => by kernel_rfl) h1.cell hmm hE h.wf (h.numWf hp) h.nodup (mem_key hp) p.kind a2 p.bs.length cap2 (hb1.heap hc' (by simp)) (by omega) ⟨by omega, by omega⟩ ⟨by omega, by omega⟩ (has_fit (by omega))
    ((writeF p.blk w.heap.size (w.heap.size + 1) o p.kind p.sl (.slice a m cap) p.bs xs _ (hW2.heap hc (by simp)) (hown.but hW2 (by simp)) (hs.but hW2 (by simp)) hx hfit hlen (hW.heap h0 (by simp)) (hW.heap h01 (by simp))).mono (by
      rintro e W ⟨he, ho, L, hbL, hLs⟩
      have hs := hb1.size
      have hLlt : ∀ x ∈ L, x < w.heap.size := fun x hx => hown.lt x (hLs x hx)
      refine ⟨he, ho, ⟨L, (hW2.mono (by simp)).trans hbL (fun x hx => .inl hx), hLs⟩, hbL.heap (w4_3 _ _ _ _ _) (fun hm => ?_)⟩
      have := hLlt _ hm
      omega))
    (fun W hW => hW.2.2)
  subst hw2
  clear hm hE hmm hc hc' hsl h0 h01 hW hW2 h1 hs
  go_enter Try.func7, Try.ntmps7
  go_wp2_with (go_at_call 19; refine hL.mono ?_; rintro e w1 ⟨rfl, w2, ⟨hw2, ⟨L, hw3, hw5⟩, hw4⟩, hw1⟩)
  go_ret
  have hs := hb1.size
  have hbut : But L w (w2.setCell ⟨w.heap.size + 1 + 1 + 3, 0, none⟩ (.int .i64 0)) := hw3.setCell (.inr (by simp only []; omega)) _
  refine ⟨rfl, h.write hp hbut hw5 (hw2.but ((But.refl [w.heap.size + 1 + 1 + 3] w2).setCell (.inl (by simp)) _) (fun k hk => ?_)) ?_ ?_, L, hbut, hw5⟩
  · have := hown.lt k hk
    simp; omega
  · intro u hu
    simp only [splice, List.mem_append] at hu
    rcases hu with hu | hu | hu
    · exact hbs u (List.mem_of_mem_take hu)
    · exact hx u hu
    · exact hbs u (List.mem_of_mem_drop hu)
  · rw [length_splice' hfit]; exact hlen
end Go.Proofs.Ytmleaogklpogdaa.M
