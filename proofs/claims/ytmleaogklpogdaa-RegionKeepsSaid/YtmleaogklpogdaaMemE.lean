/-
  The contract of a memory's look: its five ways.
-/
import Derived.Test.YtmleaogklpogdaaMemD
namespace Go.Proofs.Ytmleaogklpogdaa.M
open Go.RowKit
set_option linter.unusedVariables false
set_option linter.unusedSectionVars false
set_option linter.unusedSimpArgs false
theorem ret_cell1 {P : Program} {fn : Func} {p : Tmp} {ty : TypeId} {tmps : Array Value} {a : Addr} {v : Value} {w : World} (h : fn.results = #[.cell p ty]) (hp : tmps.getD p undef = .pointer (some a)) (hagg : (isAgg ty).run P w = .ok false w) (hc : w.cell? a = some v) :
    (results fn tmps).run P w = .ok v w := by
  rw [Array.getD_eq_getD_getElem?] at hp
  simp only [results, h]
  simp [Sem.run_bind, Result.andThen, hp, asAddr, loadVar, hagg, hc]
theorem ret_cell2 {P : Program} {fn : Func} {p u : Tmp} {ty : TypeId} {tmps : Array Value} {a : Addr} {v z : Value} {w : World} (h : fn.results = #[.cell p ty, .tmp u]) (hp : tmps.getD p undef = .pointer (some a)) (hu : tmps.getD u undef = z) (hagg : (isAgg ty).run P w = .ok false w) (hc : w.cell? a = some v) :
    (results fn tmps).run P w = .ok (.tuple #[v, z]) w := by
  rw [results_cell_tmp h, hp, hu]
  simp [Sem.run_bind, Result.andThen, asAddr, loadVar, hagg, hc]
theorem cell_of {w : World} {k : Nat} {cs : Array Value} {t : TypeId} (h : w.heap[k]? = some (.cells cs t)) (j : Nat) : w.cell? ⟨k, j, none⟩ = cs[j]? := by
  unfold World.cell?; rw [h]; rfl
theorem frozen_of {w : World} {k : Nat} {cs : Array Value} {t : TypeId} (h : w.heap[k]? = some (.cells cs t)) (j : Nat) : w.frozen? ⟨k, j, none⟩ = false := by
  unfold World.frozen?; rw [h]; simp
abbrev W4 (w : World) (off size : Int) (f : Value) (x : Int) : World := (((w.alloc (.cells #[.int .i64 off] 2)).alloc (.cells #[.int .i64 size] 3)).alloc (.cells #[f] 53)).alloc (.cells #[.int .i64 x] 29)
theorem w4_but (w : World) (off size : Int) (f : Value) (x : Int) : But [] w (W4 w off size f x) := ((((But.refl [] w).alloc _).alloc _).alloc _).alloc _
theorem w4_size (w : World) (off size : Int) (f : Value) (x : Int) : (W4 w off size f x).heap.size = w.heap.size + 4 := by simp only [W4, size_alloc]
theorem alloc_at (w : World) (o : Obj) : (w.alloc o).heap[w.heap.size]? = some o := Array.getElem?_push_size
theorem alloc_lt {w : World} {o' : Obj} {k : Nat} (h : w.heap[k]? = some o') (o : Obj) : (w.alloc o).heap[k]? = some o' := ((But.refl [] w).alloc o).heap h (by simp)
theorem w4_0 (w : World) (off size : Int) (f : Value) (x : Int) : (W4 w off size f x).heap[w.heap.size]? = some (.cells #[.int .i64 off] 2) := alloc_lt (alloc_lt (alloc_lt (alloc_at w _) _) _) _
theorem w4_1 (w : World) (off size : Int) (f : Value) (x : Int) : (W4 w off size f x).heap[w.heap.size + 1]? = some (.cells #[.int .i64 size] 3) := by
  have := alloc_at (w.alloc (.cells #[.int .i64 off] 2)) (.cells #[.int .i64 size] 3)
  rw [size_alloc] at this
  exact alloc_lt (alloc_lt this _) _
theorem w4_2 (w : World) (off size : Int) (f : Value) (x : Int) : (W4 w off size f x).heap[w.heap.size + 2]? = some (.cells #[f] 53) := by
  have := alloc_at ((w.alloc (.cells #[.int .i64 off] 2)).alloc (.cells #[.int .i64 size] 3)) (.cells #[f] 53)
  rw [size_alloc, size_alloc] at this
  exact alloc_lt this _
theorem w4_3 (w : World) (off size : Int) (f : Value) (x : Int) : (W4 w off size f x).heap[w.heap.size + 3]? = some (.cells #[.int .i64 x] 29) := by
  have := alloc_at (((w.alloc (.cells #[.int .i64 off] 2)).alloc (.cells #[.int .i64 size] 3)).alloc (.cells #[f] 53)) (.cells #[.int .i64 x] 29)
  rw [size_alloc, size_alloc, size_alloc] at this
  exact this
theorem w4_cell (w : World) (off size : Int) (f : Value) (x : Int) : (W4 w off size f x).cell? ⟨w.heap.size + 1 + 1 + 1, 0, none⟩ = some (.int .i64 x) := cell_of (w4_3 w off size f x) 0
theorem look_nil (n off size : Int) (k : Nat) (caps : Array Value) (w : World) :
    Calls Try.prog 19 #[.pointer none, .int .i64 n, .int .i64 off, .int .i64 size, .func (.func k) #[] caps] w fun e w' => e = .returned (.int .i64 1) ∧ But [] w w' := by
  have hb := ((((But.refl [] w).alloc (.cells #[.int .i64 off] 2)).alloc (.cells #[.int .i64 size] 3)).alloc (.cells #[.func (.func k) #[] caps] 53)).alloc (.cells #[.int .i64 1] 29)
  go_enter Try.func19, Try.ntmps19
  go_wp2
  refine bodyPost_ret (ret_cell1 rfl rfl (by kernel_rfl) (w4_cell w off size _ 1)) rfl ?_
  exact ⟨rfl, hb⟩
theorem look_unmade (B : Nat) (x : Value) (n off size : Int) (k : Nat) (caps : Array Value) (w : World) (hB : w.heap[B]? = some (.cells #[.map none, x] tM)) :
    Calls Try.prog 19 #[.pointer (some ⟨B, 0, none⟩), .int .i64 n, .int .i64 off, .int .i64 size, .func (.func k) #[] caps] w fun e w' => e = .returned (.int .i64 1) ∧ But [] w w' := by
  have hb := ((((But.refl [] w).alloc (.cells #[.int .i64 off] 2)).alloc (.cells #[.int .i64 size] 3)).alloc (.cells #[.func (.func k) #[] caps] 53)).alloc (.cells #[.int .i64 1] 29)
  have hB4 := (w4_but w off size (.func (.func k) #[] caps) 0).heap hB (by simp)
  go_enter Try.func19, Try.ntmps19
  go_wp2_with (go_at_call 16; refine (known B none _ (cell_of hB4 0)).mono ?_; rintro e w1 ⟨rfl, rfl⟩)
  refine bodyPost_ret (ret_cell1 rfl rfl (by kernel_rfl) (w4_cell w off size _ 1)) rfl ?_
  exact ⟨rfl, hb⟩
theorem look_none (B b : Nat) (last n off size : Int) (es : Array MapEntry) (clock : Nat) (ps : List (Int × Value)) (k : Nat) (caps : Array Value) (w : World) (hB : w.heap[B]? = some (.cells #[.map (some b), .int .i64 last] tM)) (hb : w.heap[b]? = some (.map es clock)) (hE : Ents es ps) (hw : ∀ p ∈ ps, Wf p.1) (hn : Wf n) (hne : ∀ p ∈ ps, p.1 ≠ n) :
    Calls Try.prog 19 #[.pointer (some ⟨B, 0, none⟩), .int .i64 n, .int .i64 off, .int .i64 size, .func (.func k) #[] caps] w fun e w' => e = .returned (.int .i64 6) ∧ But [] w w' := by
  have hbut := ((((But.refl [] w).alloc (.cells #[.int .i64 off] 2)).alloc (.cells #[.int .i64 size] 3)).alloc (.cells #[.func (.func k) #[] caps] 53)).alloc (.cells #[.int .i64 6] 29)
  have hB4 := (w4_but w off size (.func (.func k) #[] caps) 0).heap hB (by simp)
  have hb4 := (w4_but w off size (.func (.func k) #[] caps) 0).heap hb (by simp)
  go_enter Try.func19, Try.ntmps19
  go_wp2_with (first | (go_at_call 16; refine (known B (some b) _ (cell_of hB4 0)).mono ?_; rintro e w1 ⟨rfl, rfl⟩) | (go_at_call 25; refine (with_none B b last n es clock ps _ _ hB4 hb4 hE hw hn hne).mono ?_; rintro e w1 ⟨rfl, rfl⟩))
  refine bodyPost_ret (ret_cell1 rfl rfl (by kernel_rfl) (w4_cell w off size _ 6)) rfl ?_
  exact ⟨rfl, hbut⟩
theorem look_bounds (B b c : Nat) (last n off size : Int) (es : Array MapEntry) (clock : Nat) (ps : List (Int × Value)) (k : Nat) (caps : Array Value) (w : World) (hB : w.heap[B]? = some (.cells #[.map (some b), .int .i64 last] tM)) (hb : w.heap[b]? = some (.map es clock)) (hE : Ents es ps) (hw : ∀ p ∈ ps, Wf p.1) (hn : Wf n) (hd : (ps.map (·.1)).Nodup) (hv : (n, .pointer (some ⟨c, 0, none⟩)) ∈ ps)
    (kind : Int) (a : Option Addr) (m cap : Nat) (hc : w.heap[c]? = some (.cells #[.int .u8 kind, .slice a m cap] 51)) (hm : m ≤ 1000000000000) (ho : I64 off) (hs : I64 size) (hh : Has off size m = false) :
    Calls Try.prog 19 #[.pointer (some ⟨B, 0, none⟩), .int .i64 n, .int .i64 off, .int .i64 size, .func (.func k) #[] caps] w fun e w' => e = .returned (.int .i64 32) ∧ But [] w w' := by
  have hbut := ((((But.refl [] w).alloc (.cells #[.int .i64 off] 2)).alloc (.cells #[.int .i64 size] 3)).alloc (.cells #[.func (.func k) #[] caps] 53)).alloc (.cells #[.int .i64 32] 29)
  have hB4 := (w4_but w off size (.func (.func k) #[] caps) 0).heap hB (by simp)
  have hb4 := (w4_but w off size (.func (.func k) #[] caps) 0).heap hb (by simp)
  have hc4 := (w4_but w off size (.func (.func k) #[] caps) 0).heap hc (by simp)
  have hF := with_some B b c 26 last n es clock ps _ _ (fun W => W = (W4 w off size (.func (.func k) #[] caps) 0).setCell ⟨w.heap.size + 3, 0, none⟩ (.int .i64 32)) (fun args w => by kernel_rfl) hB4 hb4 hE hw hn hd hv (lookF_no c _ _ (w.heap.size + 2) _ kind off size a m cap _ _ hc4 (w4_0 w off size _ 0) (w4_1 w off size _ 0) (w4_3 w off size _ 0) hm ho hs hh)
  go_enter Try.func19, Try.ntmps19
  go_wp2_with (first | (go_at_call 16; refine (known B (some b) _ (cell_of hB4 0)).mono ?_; rintro e w1 ⟨rfl, rfl⟩) | (go_at_call 25; refine hF.mono ?_; rintro e w1 ⟨rfl, rfl⟩))
  refine bodyPost_ret (ret_cell1 rfl rfl (by kernel_rfl) (w4_cell w off size _ 32)) rfl ?_
  exact ⟨rfl, hbut⟩
end Go.Proofs.Ytmleaogklpogdaa.M
