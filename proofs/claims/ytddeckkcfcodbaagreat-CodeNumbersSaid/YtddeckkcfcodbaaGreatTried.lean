/-
  tried[T]: what a closure tells, or the error that it throws; for any closure.
-/
import Derived.Test.YtddeckkcfcodbaaGreatSame
import Derived.Test.YtddeckkcfcodbaaGreatAlloc
import Derived.Defers
import Derived.Recover
namespace Go.Proofs.YtddeckkcfcodbaaGreat.M
open Go.RowKit
set_option linter.unusedVariables false
set_option linter.unusedSectionVars false
set_option linter.unusedSimpArgs false
/-- An error that is thrown. -/
def thrown (E : Int) : Ending := .panicked [{ v := .iface 30 (.int .i64 E), recovered := false }]
theorem caughtS (p q : Nat) (x : Value) (y E : Int) (older : List PanicEntry) (w : World) (hc : w.cell? ⟨p, 0, none⟩ = some (.int .i64 y)) (hz : w.frozen? ⟨p, 0, none⟩ = false) (hd : w.cell? ⟨q, 0, none⟩ = some x) (hdz : w.frozen? ⟨q, 0, none⟩ = false) (hpq : p ≠ q) :
    CallsD Tryz.prog 37 #[.pointer (some ⟨p, 0, none⟩), .pointer (some ⟨q, 0, none⟩)] (.panicking ({ v := .iface 30 (.int .i64 E), recovered := false } :: older)) w fun e u' w' =>
      e = .returned (.tuple #[]) ∧ u' = .panicking ({ v := .iface 30 (.int .i64 E), recovered := true } :: older) ∧ w' = (w.setCell ⟨p, 0, none⟩ (.int .i64 E)).setCell ⟨q, 0, none⟩ (.slice none 0 0) := by
  have hb : But [p] w (w.setCell ⟨p, 0, none⟩ (.int .i64 E)) := (But.refl _ _).setCell (.inl (by simp)) _
  have hd1 : (w.setCell ⟨p, 0, none⟩ (.int .i64 E)).cell? ⟨q, 0, none⟩ = some x := cell_but hb hd (by simpa using Ne.symm hpq)
  have hd2 : (w.setCell ⟨p, 0, none⟩ (.int .i64 E)).frozen? ⟨q, 0, none⟩ = false := by
    rw [← hdz]
    unfold World.frozen?
    rw [hb.block q (cell_lt hd) (by simpa using Ne.symm hpq)]
  have hta : ∀ w : World, (Instr.typeAssert (.iface 30 (.int .i64 E)) 20 30 true).run Tryz.prog w = .ok (.tuple #[.int .i64 E, .bool true]) w := fun w => by kernel_rfl
  refine callsD_of_wpS Tryz.func37 rfl fun c₀ cs hu => ?_
  apply wpS_seq
  apply wpS_region
  simp [wpOpsS, go_sem, recoverD, hu, Tryz.ntmps37, Exit.thenS]
  apply wpS_seq
  apply wpS_region
  simp [wpOpsS, go_sem, Exit.thenS]
  refine wpS_cond (t := true) (by simp [Act.eval, Array.replicate]) ?_
  simp only [if_true]
  apply wpS_seq
  apply wpS_region
  simp [wpOpsS, go_sem, Exit.thenS]
  apply wpS_seq
  apply wpS_seq
  apply wpS_region
  simp [wpOpsS, go_sem, Exit.thenS, hta, hc, hz]
  apply wpS_seq
  apply wpS_region
  simp [wpOpsS, go_sem, Exit.thenS]
  refine wpS_cond (t := false) (by simp [Act.eval, Array.replicate]) ?_
  simp only [Bool.false_eq_true, if_false]
  refine wpS_of_wp (wp_skip ?_)
  simp only [Exit.thenS]
  apply wpS_seq
  apply wpS_region
  simp [wpOpsS, go_sem, Exit.thenS]
  apply wpS_region
  simp [wpOpsS, go_sem, hd1, hd2, bodyPostS, results, Tryz.results37]
theorem idleS (p q : Addr) (w : World) :
    CallsD Tryz.prog 37 #[.pointer (some p), .pointer (some q)] .returning w fun e u' w' => e = .returned (.tuple #[]) ∧ u' = .returning ∧ w' = w := by
  refine callsD_of_wpS Tryz.func37 rfl fun c₀ cs hu => ?_
  apply wpS_seq
  apply wpS_region
  simp [wpOpsS, go_sem, recoverD, hu, Tryz.ntmps37, Exit.thenS]
  apply wpS_seq
  apply wpS_region
  simp [wpOpsS, go_sem, Exit.thenS]
  refine wpS_cond (t := false) (by simp [Act.eval, Array.replicate]) ?_
  simp only [Bool.false_eq_true, if_false]
  refine wpS_of_wp (wp_skip ?_)
  cases c₀
  simp_all [bodyPostS, results, Tryz.results37]
set_option maxHeartbeats 1000000 in
/-- It tells what the closure tells. -/
theorem triedS (K : FuncId) (caps : Array Value) (w : World) (hK : ∀ (args : Array Value) (w : World), (callFunc K args).run Tryz.prog w = .ok (.enter K args) w) (a : Option Addr) (n c : Nat) (R : World → Prop)
    (h : ∀ w2, But [] w w2 → w2.heap.size = w.heap.size + 2 → Calls Tryz.prog K caps w2 fun e w3 => e = .returned (.slice a n c) ∧ R w3 ∧ ∃ L, But L w2 w3 ∧ w.heap.size ∉ L ∧ w.heap.size + 1 ∉ L) :
    Calls Tryz.prog 23 #[.func (.func K) #[] caps] w fun e w' => e = .returned (.tuple #[.slice a n c, .int .i64 0]) ∧ ∃ w3, R w3 ∧ But [w.heap.size, w.heap.size + 1] w3 w' := by
  have hmf : ∀ (fn : Fn) (first cap : Array Value) (w : World), (Instr.makeFunc fn first cap).run Tryz.prog w = .ok (.func fn first cap) w := fun _ _ _ _ => rfl
  have H := Lib.hid h
  clear h
  go_enter_defers Tryz.func23, Tryz.ntmps23
  go_wp2_with fail
  refine (H.out _ (((But.refl [] w).alloc _).alloc _) (by rw [size_alloc, size_alloc])).mono ?_
  rintro e w3 ⟨rfl, hR, L, hL, hl1, hl2⟩
  have HR := Lib.hid hR
  have g0 : w3.heap[w.heap.size]? = some (.cells #[.slice none 0 0] 22) := hL.heap (al_keep (al_at w _) _) hl1
  have g1 : w3.heap[w.heap.size + 1]? = some (.cells #[.int .i64 0] 30) := hL.heap (al_eq _ _ _ (by rw [size_alloc])) hl2
  have c0 : w3.cell? ⟨w.heap.size, 0, none⟩ = some (.slice none 0 0) := cl_of g0 0
  have c1 : w3.cell? ⟨w.heap.size + 1, 0, none⟩ = some (.int .i64 0) := cl_of g1 0
  have f0 : w3.frozen? ⟨w.heap.size, 0, none⟩ = false := by unfold World.frozen?; rw [g0]; simp
  have f1 : w3.frozen? ⟨w.heap.size + 1, 0, none⟩ = false := by unfold World.frozen?; rw [g1]; simp
  have hlt0 := lt_of g0
  have hlt1 := lt_of g1
  clear hR hL hl1 hl2 g0 g1
  go_wp2_with fail
  refine leaves_cons (f := 37) (args := #[.pointer (some ⟨w.heap.size + 1, 0, none⟩), .pointer (some ⟨w.heap.size, 0, none⟩)]) (by simp) (by simp [go_sem]) ?_
  refine (idleS ⟨w.heap.size + 1, 0, none⟩ ⟨w.heap.size, 0, none⟩ _).mono ?_
  rintro e u' w'' ⟨rfl, rfl, rfl⟩
  have hbut : But [w.heap.size, w.heap.size + 1] w3 ((w3.setCell ⟨w.heap.size, 0, none⟩ (.slice a n c)).setCell ⟨w.heap.size + 1, 0, none⟩ (.int .i64 0)) := ((But.refl _ _).setCell (.inl (by simp)) _).setCell (.inl (by simp)) _
  have HB := Lib.hid hbut
  clear hbut
  simp [Leaves, settle, results, Tryz.results23, go_sem, c0, c1, hlt0, hlt1]
  exact ⟨w3, HR.out, HB.out⟩
def ToldS (R : Option Addr → Nat → Nat → World → Prop) (B0 : Nat) (e : Ending) (w' : World) : Prop := ∃ a n c, e = .returned (.tuple #[.slice a n c, .int .i64 0]) ∧ ∃ w3, R a n c w3 ∧ But [B0, B0 + 1] w3 w'
set_option maxHeartbeats 1000000 in
/-- It tells what the closure tells. -/
theorem triedSX (K : FuncId) (caps : Array Value) (w : World) (hK : ∀ (args : Array Value) (w : World), (callFunc K args).run Tryz.prog w = .ok (.enter K args) w) (R : Option Addr → Nat → Nat → World → Prop)
    (h : ∀ w2, But [] w w2 → w2.heap.size = w.heap.size + 2 → Calls Tryz.prog K caps w2 fun e w3 => ∃ a n c, e = .returned (.slice a n c) ∧ R a n c w3 ∧ ∃ L, But L w2 w3 ∧ w.heap.size ∉ L ∧ w.heap.size + 1 ∉ L) :
    Calls Tryz.prog 23 #[.func (.func K) #[] caps] w (ToldS R w.heap.size) := by
  have hmf : ∀ (fn : Fn) (first cap : Array Value) (w : World), (Instr.makeFunc fn first cap).run Tryz.prog w = .ok (.func fn first cap) w := fun _ _ _ _ => rfl
  have H := Lib.hid h
  clear h
  go_enter_defers Tryz.func23, Tryz.ntmps23
  go_wp2_with fail
  refine (H.out _ (((But.refl [] w).alloc _).alloc _) (by rw [size_alloc, size_alloc])).mono ?_
  rintro e w3 ⟨a, n, c, rfl, hR, L, hL, hl1, hl2⟩
  have HR := Lib.hid hR
  have g0 : w3.heap[w.heap.size]? = some (.cells #[.slice none 0 0] 22) := hL.heap (al_keep (al_at w _) _) hl1
  have g1 : w3.heap[w.heap.size + 1]? = some (.cells #[.int .i64 0] 30) := hL.heap (al_eq _ _ _ (by rw [size_alloc])) hl2
  have c0 : w3.cell? ⟨w.heap.size, 0, none⟩ = some (.slice none 0 0) := cl_of g0 0
  have c1 : w3.cell? ⟨w.heap.size + 1, 0, none⟩ = some (.int .i64 0) := cl_of g1 0
  have f0 : w3.frozen? ⟨w.heap.size, 0, none⟩ = false := by unfold World.frozen?; rw [g0]; simp
  have f1 : w3.frozen? ⟨w.heap.size + 1, 0, none⟩ = false := by unfold World.frozen?; rw [g1]; simp
  have hlt0 := lt_of g0
  have hlt1 := lt_of g1
  clear hR hL hl1 hl2 g0 g1
  go_wp2_with fail
  refine leaves_cons (f := 37) (args := #[.pointer (some ⟨w.heap.size + 1, 0, none⟩), .pointer (some ⟨w.heap.size, 0, none⟩)]) (by simp) (by simp [go_sem]) ?_
  refine (idleS ⟨w.heap.size + 1, 0, none⟩ ⟨w.heap.size, 0, none⟩ _).mono ?_
  rintro e u' w'' ⟨rfl, rfl, rfl⟩
  have hbut : But [w.heap.size, w.heap.size + 1] w3 ((w3.setCell ⟨w.heap.size, 0, none⟩ (.slice a n c)).setCell ⟨w.heap.size + 1, 0, none⟩ (.int .i64 0)) := ((But.refl _ _).setCell (.inl (by simp)) _).setCell (.inl (by simp)) _
  have HB := Lib.hid hbut
  clear hbut
  simp [Leaves, settle, results, Tryz.results23, go_sem, c0, c1, hlt0, hlt1]
  exact ⟨a, n, c, rfl, w3, HR.out, HB.out⟩
set_option maxHeartbeats 1000000 in
/-- It tells the error that the closure throws. -/
theorem triedSE (K : FuncId) (caps : Array Value) (w : World) (hK : ∀ (args : Array Value) (w : World), (callFunc K args).run Tryz.prog w = .ok (.enter K args) w) (E : Int) (R : World → Prop)
    (h : ∀ w2, But [] w w2 → w2.heap.size = w.heap.size + 2 → Calls Tryz.prog K caps w2 fun e w3 => e = thrown E ∧ R w3 ∧ ∃ L, But L w2 w3 ∧ w.heap.size ∉ L ∧ w.heap.size + 1 ∉ L) :
    Calls Tryz.prog 23 #[.func (.func K) #[] caps] w fun e w' => e = .returned (.tuple #[.slice none 0 0, .int .i64 E]) ∧ ∃ w3, R w3 ∧ But [w.heap.size, w.heap.size + 1] w3 w' := by
  have hmf : ∀ (fn : Fn) (first cap : Array Value) (w : World), (Instr.makeFunc fn first cap).run Tryz.prog w = .ok (.func fn first cap) w := fun _ _ _ _ => rfl
  have H := Lib.hid h
  clear h
  go_enter_defers Tryz.func23, Tryz.ntmps23
  go_wp2_with fail
  refine (H.out _ (((But.refl [] w).alloc _).alloc _) (by rw [size_alloc, size_alloc])).mono ?_
  rintro e w3 ⟨he, hR, L, hL, hl1, hl2⟩
  dsimp only [thrown] at he
  subst he
  have HR := Lib.hid hR
  have g0 : w3.heap[w.heap.size]? = some (.cells #[.slice none 0 0] 22) := hL.heap (al_keep (al_at w _) _) hl1
  have g1 : w3.heap[w.heap.size + 1]? = some (.cells #[.int .i64 0] 30) := hL.heap (al_eq _ _ _ (by rw [size_alloc])) hl2
  have c0 : w3.cell? ⟨w.heap.size, 0, none⟩ = some (.slice none 0 0) := cl_of g0 0
  have c1 : w3.cell? ⟨w.heap.size + 1, 0, none⟩ = some (.int .i64 0) := cl_of g1 0
  have f0 : w3.frozen? ⟨w.heap.size, 0, none⟩ = false := by unfold World.frozen?; rw [g0]; simp
  have f1 : w3.frozen? ⟨w.heap.size + 1, 0, none⟩ = false := by unfold World.frozen?; rw [g1]; simp
  have hlt0 := lt_of g0
  have hlt1 := lt_of g1
  clear hR hL hl1 hl2 g0 g1
  go_wp2_with fail
  refine leaves_cons (f := 37) (args := #[.pointer (some ⟨w.heap.size + 1, 0, none⟩), .pointer (some ⟨w.heap.size, 0, none⟩)]) (by simp) (by simp [go_sem]) ?_
  refine (caughtS (w.heap.size + 1) w.heap.size _ 0 E [] _ c1 f1 c0 f0 (by omega)).mono ?_
  rintro e u' w'' ⟨rfl, rfl, rfl⟩
  have hbut : But [w.heap.size, w.heap.size + 1] w3 ((w3.setCell ⟨w.heap.size + 1, 0, none⟩ (.int .i64 E)).setCell ⟨w.heap.size, 0, none⟩ (.slice none 0 0)) := ((But.refl _ _).setCell (.inl (by simp)) _).setCell (.inl (by simp)) _
  have HB := Lib.hid hbut
  clear hbut
  simp [Leaves, settle, results, Tryz.results23, go_sem, c0, c1, hlt0, hlt1]
  exact ⟨w3, HR.out, HB.out⟩
theorem caughtR (p q : Nat) (x : Value) (y E : Int) (older : List PanicEntry) (w : World) (hc : w.cell? ⟨p, 0, none⟩ = some (.int .i64 y)) (hz : w.frozen? ⟨p, 0, none⟩ = false) (hd : w.cell? ⟨q, 0, none⟩ = some x) (hdz : w.frozen? ⟨q, 0, none⟩ = false) (hpq : p ≠ q) :
    CallsD Tryz.prog 34 #[.pointer (some ⟨p, 0, none⟩), .pointer (some ⟨q, 0, none⟩)] (.panicking ({ v := .iface 30 (.int .i64 E), recovered := false } :: older)) w fun e u' w' =>
      e = .returned (.tuple #[]) ∧ u' = .panicking ({ v := .iface 30 (.int .i64 E), recovered := true } :: older) ∧ w' = (w.setCell ⟨p, 0, none⟩ (.int .i64 E)).setCell ⟨q, 0, none⟩ (.slice none 0 0) := by
  have hb : But [p] w (w.setCell ⟨p, 0, none⟩ (.int .i64 E)) := (But.refl _ _).setCell (.inl (by simp)) _
  have hd1 : (w.setCell ⟨p, 0, none⟩ (.int .i64 E)).cell? ⟨q, 0, none⟩ = some x := cell_but hb hd (by simpa using Ne.symm hpq)
  have hd2 : (w.setCell ⟨p, 0, none⟩ (.int .i64 E)).frozen? ⟨q, 0, none⟩ = false := by
    rw [← hdz]
    unfold World.frozen?
    rw [hb.block q (cell_lt hd) (by simpa using Ne.symm hpq)]
  have hta : ∀ w : World, (Instr.typeAssert (.iface 30 (.int .i64 E)) 20 30 true).run Tryz.prog w = .ok (.tuple #[.int .i64 E, .bool true]) w := fun w => by kernel_rfl
  refine callsD_of_wpS Tryz.func34 rfl fun c₀ cs hu => ?_
  apply wpS_seq
  apply wpS_region
  simp [wpOpsS, go_sem, recoverD, hu, Tryz.ntmps34, Exit.thenS]
  apply wpS_seq
  apply wpS_region
  simp [wpOpsS, go_sem, Exit.thenS]
  refine wpS_cond (t := true) (by simp [Act.eval, Array.replicate]) ?_
  simp only [if_true]
  apply wpS_seq
  apply wpS_region
  simp [wpOpsS, go_sem, Exit.thenS]
  apply wpS_seq
  apply wpS_seq
  apply wpS_region
  simp [wpOpsS, go_sem, Exit.thenS, hta, hc, hz]
  apply wpS_seq
  apply wpS_region
  simp [wpOpsS, go_sem, Exit.thenS]
  refine wpS_cond (t := false) (by simp [Act.eval, Array.replicate]) ?_
  simp only [Bool.false_eq_true, if_false]
  refine wpS_of_wp (wp_skip ?_)
  simp only [Exit.thenS]
  apply wpS_seq
  apply wpS_region
  simp [wpOpsS, go_sem, Exit.thenS]
  apply wpS_region
  simp [wpOpsS, go_sem, hd1, hd2, bodyPostS, results, Tryz.results34]
theorem idleR (p q : Addr) (w : World) :
    CallsD Tryz.prog 34 #[.pointer (some p), .pointer (some q)] .returning w fun e u' w' => e = .returned (.tuple #[]) ∧ u' = .returning ∧ w' = w := by
  refine callsD_of_wpS Tryz.func34 rfl fun c₀ cs hu => ?_
  apply wpS_seq
  apply wpS_region
  simp [wpOpsS, go_sem, recoverD, hu, Tryz.ntmps34, Exit.thenS]
  apply wpS_seq
  apply wpS_region
  simp [wpOpsS, go_sem, Exit.thenS]
  refine wpS_cond (t := false) (by simp [Act.eval, Array.replicate]) ?_
  simp only [Bool.false_eq_true, if_false]
  refine wpS_of_wp (wp_skip ?_)
  cases c₀
  simp_all [bodyPostS, results, Tryz.results34]
set_option maxHeartbeats 1000000 in
/-- It tells what the closure tells. -/
theorem triedR (K : FuncId) (caps : Array Value) (w : World) (hK : ∀ (args : Array Value) (w : World), (callFunc K args).run Tryz.prog w = .ok (.enter K args) w) (a : Option Addr) (n c : Nat) (R : World → Prop)
    (h : ∀ w2, But [] w w2 → w2.heap.size = w.heap.size + 2 → Calls Tryz.prog K caps w2 fun e w3 => e = .returned (.slice a n c) ∧ R w3 ∧ ∃ L, But L w2 w3 ∧ w.heap.size ∉ L ∧ w.heap.size + 1 ∉ L) :
    Calls Tryz.prog 16 #[.func (.func K) #[] caps] w fun e w' => e = .returned (.tuple #[.slice a n c, .int .i64 0]) ∧ ∃ w3, R w3 ∧ But [w.heap.size, w.heap.size + 1] w3 w' := by
  have hmf : ∀ (fn : Fn) (first cap : Array Value) (w : World), (Instr.makeFunc fn first cap).run Tryz.prog w = .ok (.func fn first cap) w := fun _ _ _ _ => rfl
  have H := Lib.hid h
  clear h
  go_enter_defers Tryz.func16, Tryz.ntmps16
  go_wp2_with fail
  refine (H.out _ (((But.refl [] w).alloc _).alloc _) (by rw [size_alloc, size_alloc])).mono ?_
  rintro e w3 ⟨rfl, hR, L, hL, hl1, hl2⟩
  have HR := Lib.hid hR
  have g0 : w3.heap[w.heap.size]? = some (.cells #[.slice none 0 0] 28) := hL.heap (al_keep (al_at w _) _) hl1
  have g1 : w3.heap[w.heap.size + 1]? = some (.cells #[.int .i64 0] 30) := hL.heap (al_eq _ _ _ (by rw [size_alloc])) hl2
  have c0 : w3.cell? ⟨w.heap.size, 0, none⟩ = some (.slice none 0 0) := cl_of g0 0
  have c1 : w3.cell? ⟨w.heap.size + 1, 0, none⟩ = some (.int .i64 0) := cl_of g1 0
  have f0 : w3.frozen? ⟨w.heap.size, 0, none⟩ = false := by unfold World.frozen?; rw [g0]; simp
  have f1 : w3.frozen? ⟨w.heap.size + 1, 0, none⟩ = false := by unfold World.frozen?; rw [g1]; simp
  have hlt0 := lt_of g0
  have hlt1 := lt_of g1
  clear hR hL hl1 hl2 g0 g1
  go_wp2_with fail
  refine leaves_cons (f := 34) (args := #[.pointer (some ⟨w.heap.size + 1, 0, none⟩), .pointer (some ⟨w.heap.size, 0, none⟩)]) (by simp) (by simp [go_sem]) ?_
  refine (idleR ⟨w.heap.size + 1, 0, none⟩ ⟨w.heap.size, 0, none⟩ _).mono ?_
  rintro e u' w'' ⟨rfl, rfl, rfl⟩
  have hbut : But [w.heap.size, w.heap.size + 1] w3 ((w3.setCell ⟨w.heap.size, 0, none⟩ (.slice a n c)).setCell ⟨w.heap.size + 1, 0, none⟩ (.int .i64 0)) := ((But.refl _ _).setCell (.inl (by simp)) _).setCell (.inl (by simp)) _
  have HB := Lib.hid hbut
  clear hbut
  simp [Leaves, settle, results, Tryz.results16, go_sem, c0, c1, hlt0, hlt1]
  exact ⟨w3, HR.out, HB.out⟩
def ToldR (R : Option Addr → Nat → Nat → World → Prop) (B0 : Nat) (e : Ending) (w' : World) : Prop := ∃ a n c, e = .returned (.tuple #[.slice a n c, .int .i64 0]) ∧ ∃ w3, R a n c w3 ∧ But [B0, B0 + 1] w3 w'
set_option maxHeartbeats 1000000 in
/-- It tells what the closure tells. -/
theorem triedRX (K : FuncId) (caps : Array Value) (w : World) (hK : ∀ (args : Array Value) (w : World), (callFunc K args).run Tryz.prog w = .ok (.enter K args) w) (R : Option Addr → Nat → Nat → World → Prop)
    (h : ∀ w2, But [] w w2 → w2.heap.size = w.heap.size + 2 → Calls Tryz.prog K caps w2 fun e w3 => ∃ a n c, e = .returned (.slice a n c) ∧ R a n c w3 ∧ ∃ L, But L w2 w3 ∧ w.heap.size ∉ L ∧ w.heap.size + 1 ∉ L) :
    Calls Tryz.prog 16 #[.func (.func K) #[] caps] w (ToldR R w.heap.size) := by
  have hmf : ∀ (fn : Fn) (first cap : Array Value) (w : World), (Instr.makeFunc fn first cap).run Tryz.prog w = .ok (.func fn first cap) w := fun _ _ _ _ => rfl
  have H := Lib.hid h
  clear h
  go_enter_defers Tryz.func16, Tryz.ntmps16
  go_wp2_with fail
  refine (H.out _ (((But.refl [] w).alloc _).alloc _) (by rw [size_alloc, size_alloc])).mono ?_
  rintro e w3 ⟨a, n, c, rfl, hR, L, hL, hl1, hl2⟩
  have HR := Lib.hid hR
  have g0 : w3.heap[w.heap.size]? = some (.cells #[.slice none 0 0] 28) := hL.heap (al_keep (al_at w _) _) hl1
  have g1 : w3.heap[w.heap.size + 1]? = some (.cells #[.int .i64 0] 30) := hL.heap (al_eq _ _ _ (by rw [size_alloc])) hl2
  have c0 : w3.cell? ⟨w.heap.size, 0, none⟩ = some (.slice none 0 0) := cl_of g0 0
  have c1 : w3.cell? ⟨w.heap.size + 1, 0, none⟩ = some (.int .i64 0) := cl_of g1 0
  have f0 : w3.frozen? ⟨w.heap.size, 0, none⟩ = false := by unfold World.frozen?; rw [g0]; simp
  have f1 : w3.frozen? ⟨w.heap.size + 1, 0, none⟩ = false := by unfold World.frozen?; rw [g1]; simp
  have hlt0 := lt_of g0
  have hlt1 := lt_of g1
  clear hR hL hl1 hl2 g0 g1
  go_wp2_with fail
  refine leaves_cons (f := 34) (args := #[.pointer (some ⟨w.heap.size + 1, 0, none⟩), .pointer (some ⟨w.heap.size, 0, none⟩)]) (by simp) (by simp [go_sem]) ?_
  refine (idleR ⟨w.heap.size + 1, 0, none⟩ ⟨w.heap.size, 0, none⟩ _).mono ?_
  rintro e u' w'' ⟨rfl, rfl, rfl⟩
  have hbut : But [w.heap.size, w.heap.size + 1] w3 ((w3.setCell ⟨w.heap.size, 0, none⟩ (.slice a n c)).setCell ⟨w.heap.size + 1, 0, none⟩ (.int .i64 0)) := ((But.refl _ _).setCell (.inl (by simp)) _).setCell (.inl (by simp)) _
  have HB := Lib.hid hbut
  clear hbut
  simp [Leaves, settle, results, Tryz.results16, go_sem, c0, c1, hlt0, hlt1]
  exact ⟨a, n, c, rfl, w3, HR.out, HB.out⟩
set_option maxHeartbeats 1000000 in
/-- It tells the error that the closure throws. -/
theorem triedRE (K : FuncId) (caps : Array Value) (w : World) (hK : ∀ (args : Array Value) (w : World), (callFunc K args).run Tryz.prog w = .ok (.enter K args) w) (E : Int) (R : World → Prop)
    (h : ∀ w2, But [] w w2 → w2.heap.size = w.heap.size + 2 → Calls Tryz.prog K caps w2 fun e w3 => e = thrown E ∧ R w3 ∧ ∃ L, But L w2 w3 ∧ w.heap.size ∉ L ∧ w.heap.size + 1 ∉ L) :
    Calls Tryz.prog 16 #[.func (.func K) #[] caps] w fun e w' => e = .returned (.tuple #[.slice none 0 0, .int .i64 E]) ∧ ∃ w3, R w3 ∧ But [w.heap.size, w.heap.size + 1] w3 w' := by
  have hmf : ∀ (fn : Fn) (first cap : Array Value) (w : World), (Instr.makeFunc fn first cap).run Tryz.prog w = .ok (.func fn first cap) w := fun _ _ _ _ => rfl
  have H := Lib.hid h
  clear h
  go_enter_defers Tryz.func16, Tryz.ntmps16
  go_wp2_with fail
  refine (H.out _ (((But.refl [] w).alloc _).alloc _) (by rw [size_alloc, size_alloc])).mono ?_
  rintro e w3 ⟨he, hR, L, hL, hl1, hl2⟩
  dsimp only [thrown] at he
  subst he
  have HR := Lib.hid hR
  have g0 : w3.heap[w.heap.size]? = some (.cells #[.slice none 0 0] 28) := hL.heap (al_keep (al_at w _) _) hl1
  have g1 : w3.heap[w.heap.size + 1]? = some (.cells #[.int .i64 0] 30) := hL.heap (al_eq _ _ _ (by rw [size_alloc])) hl2
  have c0 : w3.cell? ⟨w.heap.size, 0, none⟩ = some (.slice none 0 0) := cl_of g0 0
  have c1 : w3.cell? ⟨w.heap.size + 1, 0, none⟩ = some (.int .i64 0) := cl_of g1 0
  have f0 : w3.frozen? ⟨w.heap.size, 0, none⟩ = false := by unfold World.frozen?; rw [g0]; simp
  have f1 : w3.frozen? ⟨w.heap.size + 1, 0, none⟩ = false := by unfold World.frozen?; rw [g1]; simp
  have hlt0 := lt_of g0
  have hlt1 := lt_of g1
  clear hR hL hl1 hl2 g0 g1
  go_wp2_with fail
  refine leaves_cons (f := 34) (args := #[.pointer (some ⟨w.heap.size + 1, 0, none⟩), .pointer (some ⟨w.heap.size, 0, none⟩)]) (by simp) (by simp [go_sem]) ?_
  refine (caughtR (w.heap.size + 1) w.heap.size _ 0 E [] _ c1 f1 c0 f0 (by omega)).mono ?_
  rintro e u' w'' ⟨rfl, rfl, rfl⟩
  have hbut : But [w.heap.size, w.heap.size + 1] w3 ((w3.setCell ⟨w.heap.size + 1, 0, none⟩ (.int .i64 E)).setCell ⟨w.heap.size, 0, none⟩ (.slice none 0 0)) := ((But.refl _ _).setCell (.inl (by simp)) _).setCell (.inl (by simp)) _
  have HB := Lib.hid hbut
  clear hbut
  simp [Leaves, settle, results, Tryz.results16, go_sem, c0, c1, hlt0, hlt1]
  exact ⟨w3, HR.out, HB.out⟩
end Go.Proofs.YtddeckkcfcodbaaGreat.M
