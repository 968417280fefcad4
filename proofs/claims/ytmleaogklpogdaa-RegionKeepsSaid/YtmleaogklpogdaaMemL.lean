/-
  The methods that look at a part: Kind, Size.
-/
import Derived.Test.YtmleaogklpogdaaMemI
namespace Go.Proofs.Ytmleaogklpogdaa.M
open Go.RowKit
set_option linter.unusedVariables false
set_option linter.unusedSectionVars false
set_option linter.unusedSimpArgs false
theorem mem_key {l : List Part} {p : Part} (hp : p ∈ l) : (p.num, Value.pointer (some ⟨p.blk, 0, none⟩)) ∈ ents l := List.mem_map.2 ⟨p, hp, rfl⟩
theorem Mem.nodup {w : World} {base B b : Nat} {last : Int} {l : List Part} (h : Mem w base B b last l) : ((ents l).map (·.1)).Nodup := by rw [ents_num]; exact h.dist
theorem Mem.numWf {w : World} {base B b : Nat} {last : Int} {l : List Part} (h : Mem w base B b last l) {p : Part} (hp : p ∈ l) : Wf p.num := h.wf _ (mem_key hp)
theorem not_key {l : List Part} {n : Int} (h : ∀ p ∈ l, p.num ≠ n) : ∀ q ∈ ents l, q.1 ≠ n := fun q hq => by
  obtain ⟨p, hp, rfl⟩ := List.mem_map.1 hq
  exact h p hp
theorem own_len {w : World} {a : Option Addr} {n cap : Nat} {xs : List Value} (h : Own w (.slice a n cap) xs) : n = xs.length := by
  rcases h.2 with ⟨h, h2⟩ | ⟨g, cap, cur, h, _⟩
  · cases h; exact h2.symm
  · cases h; rfl
theorem own_shape' {w : World} {v : Value} {xs : List Value} (h : Own w v xs) : ∃ a cap, v = .slice a xs.length cap := by
  rcases h.2 with ⟨rfl, h2⟩ | ⟨g, cap, cur, rfl, _⟩
  · exact ⟨_, _, by rw [h2]⟩
  · exact ⟨_, _, rfl⟩
theorem set_cell0 {w : World} {e : Nat} {v : Value} {t : TypeId} (h : w.heap[e]? = some (.cells #[v] t)) (u : Value) : (w.setCell ⟨e, 0, none⟩ u).heap[e]? = some (.cells #[u] t) := by
  simp [World.setCell, Array.getElem?_modify, h]
theorem has_0 (n : Nat) : Has 0 0 n = true := by simp [Has]
theorem kind_none (base B b : Nat) (last n : Int) (l : List Part) (w : World) (h : Mem w base B b last l) (hn : Wf n) (hne : ∀ p ∈ l, p.num ≠ n) :
    Calls Try.prog 9 #[.pointer (some ⟨B, 0, none⟩), .int .i64 n] w fun e w' => e = .returned (.int .u8 0) ∧ But [] w w' := by
  have hb1 : But [] w (w.alloc (.cells #[.int .u8 0] 32)) := (But.refl [] w).alloc _
  have h1 := h.new hb1
  obtain ⟨es, clock, hm, hE⟩ := h1.map
  go_enter Try.func9, Try.ntmps9
  go_wp2_with (go_at_call 19; refine (look_none B b last n 0 0 es clock (ents l) _ _ _ h1.cell hm hE h.wf hn (not_key hne)).mono ?_; rintro e w1 ⟨rfl, hb⟩; have c1 : w1.cell? ⟨w.heap.size, 0, none⟩ = some (.int .u8 0) := cell_of (hb.heap (alloc_at w _) (by simp)) 0; have f1 : w1.frozen? ⟨w.heap.size, 0, none⟩ = false := frozen_of (hb.heap (alloc_at w _) (by simp)) 0)
  refine bodyPost_ret (ret_cell1 rfl rfl (by kernel_rfl) (World.cell?_setCell_same _ _ _ c1)) rfl ?_
  exact ⟨rfl, (hb1.trans hb (by simp)).setCell (.inr (Nat.le_refl _)) _⟩
theorem size_none (base B b : Nat) (last n : Int) (l : List Part) (w : World) (h : Mem w base B b last l) (hn : Wf n) (hne : ∀ p ∈ l, p.num ≠ n) :
    Calls Try.prog 10 #[.pointer (some ⟨B, 0, none⟩), .int .i64 n] w fun e w' => e = .returned (.int .i64 0) ∧ But [] w w' := by
  have hb1 : But [] w (w.alloc (.cells #[.int .i64 0] 3)) := (But.refl [] w).alloc _
  have h1 := h.new hb1
  obtain ⟨es, clock, hm, hE⟩ := h1.map
  go_enter Try.func10, Try.ntmps10
  go_wp2_with (go_at_call 19; refine (look_none B b last n 0 0 es clock (ents l) _ _ _ h1.cell hm hE h.wf hn (not_key hne)).mono ?_; rintro e w1 ⟨rfl, hb⟩; have c1 : w1.cell? ⟨w.heap.size, 0, none⟩ = some (.int .i64 0) := cell_of (hb.heap (alloc_at w _) (by simp)) 0; have f1 : w1.frozen? ⟨w.heap.size, 0, none⟩ = false := frozen_of (hb.heap (alloc_at w _) (by simp)) 0)
  refine bodyPost_ret (ret_cell1 rfl rfl (by kernel_rfl) (World.cell?_setCell_same _ _ _ c1)) rfl ?_
  exact ⟨rfl, (hb1.trans hb (by simp)).setCell (.inr (Nat.le_refl _)) _⟩
theorem free_none (base B b : Nat) (last n : Int) (l : List Part) (w : World) (h : Mem w base B b last l) (hn : Wf n) (hne : ∀ p ∈ l, p.num ≠ n) :
    Calls Try.prog 8 #[.pointer (some ⟨B, 0, none⟩), .int .i64 n] w fun e w' => e = .returned (.int .i64 6) ∧ But [] w w' := by
  have hb1 : But [] w ((w.alloc (.cells #[.pointer (some ⟨B, 0, none⟩)] 22)).alloc (.cells #[.int .i64 n] 3)) := ((But.refl [] w).alloc _).alloc _
  have h1 := h.new hb1
  obtain ⟨es, clock, hm, hE⟩ := h1.map
  go_enter Try.func8, Try.ntmps8
  go_wp2_with (go_at_call 19; refine (look_none B b last n 0 0 es clock (ents l) _ _ _ h1.cell hm hE h.wf hn (not_key hne)).mono ?_; rintro e w1 ⟨rfl, hb⟩)
  go_ret
  exact ⟨rfl, hb1.trans hb (by simp)⟩
theorem write_none (base B b : Nat) (last n off : Int) (a : Option Addr) (m cap : Nat) (l : List Part) (w : World) (h : Mem w base B b last l) (hn : Wf n) (hne : ∀ p ∈ l, p.num ≠ n) :
    Calls Try.prog 7 #[.pointer (some ⟨B, 0, none⟩), .int .i64 n, .int .i64 off, .slice a m cap] w fun e w' => e = .returned (.int .i64 6) ∧ But [] w w' := by
  have hb1 : But [] w ((w.alloc (.cells #[.int .i64 off] 2)).alloc (.cells #[.slice a m cap] 33)) := ((But.refl [] w).alloc _).alloc _
  have h1 := h.new hb1
  obtain ⟨es, clock, hm, hE⟩ := h1.map
  go_enter Try.func7, Try.ntmps7
  go_wp2_with (go_at_call 19; refine (look_none B b last n off _ es clock (ents l) _ _ _ h1.cell hm hE h.wf hn (not_key hne)).mono ?_; rintro e w1 ⟨rfl, hb⟩)
  go_ret
  exact ⟨rfl, hb1.trans hb (by simp)⟩
theorem alloc3_at (w : World) (x y z : Obj) : (((w.alloc x).alloc y).alloc z).heap[w.heap.size + 2]? = some z := by
  have := alloc_at ((w.alloc x).alloc y) z
  rw [size_alloc, size_alloc] at this
  exact this
theorem read_none (base B b : Nat) (last n off size : Int) (l : List Part) (w : World) (h : Mem w base B b last l) (hn : Wf n) (hne : ∀ p ∈ l, p.num ≠ n) :
    Calls Try.prog 6 #[.pointer (some ⟨B, 0, none⟩), .int .i64 n, .int .i64 off, .int .i64 size] w fun e w' => e = .returned (.tuple #[.slice none 0 0, .int .i64 6]) ∧ But [] w w' := by
  have hb1 : But [] w (((w.alloc (.cells #[.int .i64 off] 2)).alloc (.cells #[.int .i64 size] 3)).alloc (.cells #[.slice none 0 0] 33)) := (((But.refl [] w).alloc _).alloc _).alloc _
  have h1 := h.new hb1
  obtain ⟨es, clock, hm, hE⟩ := h1.map
  have ha := alloc3_at w (.cells #[.int .i64 off] 2) (.cells #[.int .i64 size] 3) (.cells #[.slice none 0 0] 33)
  go_enter Try.func6, Try.ntmps6
  go_wp2_with (go_at_call 19; refine (look_none B b last n off size es clock (ents l) _ _ _ h1.cell hm hE h.wf hn (not_key hne)).mono ?_; rintro e w1 ⟨rfl, hb⟩; have c1 : w1.cell? ⟨w.heap.size + 1 + 1, 0, none⟩ = some (.slice none 0 0) := cell_of (hb.heap ha (by simp)) 0; have f1 : w1.frozen? ⟨w.heap.size + 1 + 1, 0, none⟩ = false := frozen_of (hb.heap ha (by simp)) 0)
  refine bodyPost_ret (ret_cell2 rfl rfl rfl (by kernel_rfl) (World.cell?_setCell_same _ _ _ c1)) rfl ?_
  exact ⟨rfl, (hb1.trans hb (by simp)).setCell (.inr (by simp; omega)) _⟩
end Go.Proofs.Ytmleaogklpogdaa.M
