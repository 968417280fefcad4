/-
  'WordOrders' tells true, of any words: the walk.
-/
import Derived.Test.YtjbmlnkacfbheaaWordTopB
import Derived.Test.YtjbmlnkacfbheaaWordOrdersSp
namespace Go.Proofs.Ytjbmlnkacfbheaa.OrdersW
open Go.RowKit
set_option linter.unusedVariables false
theorem w64_of {x : Int} (h : (Lit.int .u64 x).wf = true) : Sp.W64 x := by
  simp only [Lit.wf, Bool.and_eq_true, decide_eq_true_eq] at h
  have h1 : IntKind.u64.min = 0 := rfl
  have h2 : IntKind.u64.max = 18446744073709551615 := rfl
  exact ⟨by omega, by omega⟩
theorem step {B : Nat} {w w' : World} (h : Sp.Ok w w') (hB : B ≤ w.heap.size) : (∀ b o, b < B → w'.cell? ⟨b, o, none⟩ = w.cell? ⟨b, o, none⟩) ∧ B ≤ w'.heap.size :=
  ⟨fun b o hb => Below.cell (p := ⟨b, o, none⟩) h (Nat.lt_of_lt_of_le hb hB), Nat.le_trans hB h.size⟩
set_option maxRecDepth 100000 in
set_option maxHeartbeats 8000000 in
theorem walkT (a b : Int) (w : World) (ha : Sp.W64 a) (hb : Sp.W64 b) :
    Calls Try.prog 7 #[.int .u64 a, .int .u64 b, .bool true] w fun e w' => e = .returned (.bool true) ∧ Sp.Ok w w' := by
  obtain ⟨x1, y1, x2, y2, x3, y3, x4, y4, x5, y5, l, F⟩ := Sp.ord true ha hb
  have g1 := F.c1
  have g2 := F.c2
  have g3 := F.c3
  have g4 := F.c4
  have g5 := F.c5
  have hu : Sp.testW 32 true (bits .xor .u64 a 9223372036854775808) (bits .xor .u64 b 9223372036854775808) = some x4 := F.u
  have HU := Lib.hid hu
  clear hu
  go_enter Try.func7, Try.ntmps7
  go_wp2_with (go_at_call 9; refine (Top.awake _).mono ?_; rintro e w1 ⟨rfl, hk1⟩)
  refine wp_loop_rounds 6 ?_
  rw [rounds_succ]
  go_wp2_with fail
  refine (Top.testAny _ _ _ _ _ (by decide) (by decide) ha hb).mono ?_
  rintro e va1 ⟨rfl, ka1⟩
  rw [F.a1]; simp only [Sp.resB]
  obtain ⟨ca1, za1⟩ := step (B := w1.heap.size + 6) ka1 (by first | assumption | (simp; done) | (simp; omega))
  go_wp2_with fail
  refine (Top.testAny _ _ _ _ _ (by decide) (by decide) ha hb).mono ?_
  rintro e vb1 ⟨rfl, kb1⟩
  rw [F.b1]; simp only [Sp.resB]
  obtain ⟨cb1, zb1⟩ := step (B := w1.heap.size + 6) kb1 (by first | assumption | (simp; done) | (simp; omega))
  go_wp2_with fail
  rw [rounds_succ]
  go_wp2_with fail
  refine (Top.testAny _ _ _ _ _ (by decide) (by decide) ha hb).mono ?_
  rintro e va2 ⟨rfl, ka2⟩
  rw [F.a2]; simp only [Sp.resB]
  obtain ⟨ca2, za2⟩ := step (B := w1.heap.size + 6) ka2 (by first | assumption | (simp; done) | (simp; omega))
  go_wp2_with fail
  refine (Top.testAny _ _ _ _ _ (by decide) (by decide) ha hb).mono ?_
  rintro e vb2 ⟨rfl, kb2⟩
  rw [F.b2]; simp only [Sp.resB]
  obtain ⟨cb2, zb2⟩ := step (B := w1.heap.size + 6) kb2 (by first | assumption | (simp; done) | (simp; omega))
  go_wp2_with fail
  rw [rounds_succ]
  go_wp2_with fail
  refine (Top.testAny _ _ _ _ _ (by decide) (by decide) ha hb).mono ?_
  rintro e va3 ⟨rfl, ka3⟩
  rw [F.a3]; simp only [Sp.resB]
  obtain ⟨ca3, za3⟩ := step (B := w1.heap.size + 6) ka3 (by first | assumption | (simp; done) | (simp; omega))
  go_wp2_with fail
  refine (Top.testAny _ _ _ _ _ (by decide) (by decide) ha hb).mono ?_
  rintro e vb3 ⟨rfl, kb3⟩
  rw [F.b3]; simp only [Sp.resB]
  obtain ⟨cb3, zb3⟩ := step (B := w1.heap.size + 6) kb3 (by first | assumption | (simp; done) | (simp; omega))
  go_wp2_with fail
  rw [rounds_succ]
  go_wp2_with fail
  refine (Top.testAny _ _ _ _ _ (by decide) (by decide) ha hb).mono ?_
  rintro e va4 ⟨rfl, ka4⟩
  rw [F.a4]; simp only [Sp.resB]
  obtain ⟨ca4, za4⟩ := step (B := w1.heap.size + 6) ka4 (by first | assumption | (simp; done) | (simp; omega))
  go_wp2_with fail
  refine (Top.testAny _ _ _ _ _ (by decide) (by decide) ha hb).mono ?_
  rintro e vb4 ⟨rfl, kb4⟩
  rw [F.b4]; simp only [Sp.resB]
  obtain ⟨cb4, zb4⟩ := step (B := w1.heap.size + 6) kb4 (by first | assumption | (simp; done) | (simp; omega))
  go_wp2_with fail
  rw [rounds_succ]
  go_wp2_with fail
  refine (Top.testAny _ _ _ _ _ (by decide) (by decide) ha hb).mono ?_
  rintro e va5 ⟨rfl, ka5⟩
  rw [F.a5]; simp only [Sp.resB]
  obtain ⟨ca5, za5⟩ := step (B := w1.heap.size + 6) ka5 (by first | assumption | (simp; done) | (simp; omega))
  go_wp2_with fail
  refine (Top.testAny _ _ _ _ _ (by decide) (by decide) ha hb).mono ?_
  rintro e vb5 ⟨rfl, kb5⟩
  rw [F.b5]; simp only [Sp.resB]
  obtain ⟨cb5, zb5⟩ := step (B := w1.heap.size + 6) kb5 (by first | assumption | (simp; done) | (simp; omega))
  go_wp2_with fail
  rw [rounds_succ]
  go_wp2_with fail
  refine (Top.testAny _ _ _ _ _ (by decide) (by decide) (by first | assumption | exact Sp.W64_xor) (by first | assumption | exact Sp.W64_xor)).mono ?_
  rintro e u0 ⟨rfl, ku0⟩
  rw [F.a4]; simp only [Sp.resB]
  go_wp2_with fail
  refine (Top.testAny _ _ _ _ _ (by decide) (by decide) (by first | assumption | exact Sp.W64_xor) (by first | assumption | exact Sp.W64_xor)).mono ?_
  rintro e u1 ⟨rfl, ku1⟩
  rw [HU.out]; simp only [Sp.resB]
  go_wp2_with fail
  refine (Top.testAny _ _ _ _ _ (by decide) (by decide) (by first | assumption | exact Sp.W64_xor) (by first | assumption | exact Sp.W64_xor)).mono ?_
  rintro e u2 ⟨rfl, ku2⟩
  rw [F.l]; simp only [Sp.resB]
  go_wp2_with fail
  refine (Top.testAny _ _ _ _ _ (by decide) (by decide) (by first | assumption | exact Sp.W64_xor) (by first | assumption | exact Sp.W64_xor)).mono ?_
  rintro e u3 ⟨rfl, ku3⟩
  rw [F.a2]; simp only [Sp.resB]
  go_wp2_with fail
  go_ret
  refine ⟨by simp, ?_⟩
  refine Sp.Ok.trans (Sp.Ok.trans ?_ ka1) ?_
  · repeat (first | exact hk1 | refine Sp.Ok.alloc ?_ _)
  · exact (((((((((kb1.trans ka2).trans kb2).trans ka3).trans kb3).trans ka4).trans kb4).trans ka5).trans kb5).trans ku0).trans ((ku1.trans ku2).trans ku3)
set_option maxRecDepth 100000 in
set_option maxHeartbeats 8000000 in
theorem walkF (a b : Int) (w : World) (ha : Sp.W64 a) (hb : Sp.W64 b) :
    Calls Try.prog 7 #[.int .u64 a, .int .u64 b, .bool false] w fun e w' => e = .returned (.bool true) ∧ Sp.Ok w w' := by
  obtain ⟨x1, y1, x2, y2, x3, y3, x4, y4, x5, y5, l, F⟩ := Sp.ord false ha hb
  have g1 := F.c1
  have g2 := F.c2
  have g3 := F.c3
  have g4 := F.c4
  have g5 := F.c5
  have hu : Sp.testW 32 false (bits .xor .u64 a 2147483648) (bits .xor .u64 b 2147483648) = some x4 := F.u
  have HU := Lib.hid hu
  clear hu
  go_enter Try.func7, Try.ntmps7
  go_wp2_with (go_at_call 9; refine (Top.awake _).mono ?_; rintro e w1 ⟨rfl, hk1⟩)
  refine wp_loop_rounds 6 ?_
  rw [rounds_succ]
  go_wp2_with fail
  refine (Top.testAny _ _ _ _ _ (by decide) (by decide) ha hb).mono ?_
  rintro e va1 ⟨rfl, ka1⟩
  rw [F.a1]; simp only [Sp.resB]
  obtain ⟨ca1, za1⟩ := step (B := w1.heap.size + 6) ka1 (by first | assumption | (simp; done) | (simp; omega))
  go_wp2_with fail
  refine (Top.testAny _ _ _ _ _ (by decide) (by decide) ha hb).mono ?_
  rintro e vb1 ⟨rfl, kb1⟩
  rw [F.b1]; simp only [Sp.resB]
  obtain ⟨cb1, zb1⟩ := step (B := w1.heap.size + 6) kb1 (by first | assumption | (simp; done) | (simp; omega))
  go_wp2_with fail
  rw [rounds_succ]
  go_wp2_with fail
  refine (Top.testAny _ _ _ _ _ (by decide) (by decide) ha hb).mono ?_
  rintro e va2 ⟨rfl, ka2⟩
  rw [F.a2]; simp only [Sp.resB]
  obtain ⟨ca2, za2⟩ := step (B := w1.heap.size + 6) ka2 (by first | assumption | (simp; done) | (simp; omega))
  go_wp2_with fail
  refine (Top.testAny _ _ _ _ _ (by decide) (by decide) ha hb).mono ?_
  rintro e vb2 ⟨rfl, kb2⟩
  rw [F.b2]; simp only [Sp.resB]
  obtain ⟨cb2, zb2⟩ := step (B := w1.heap.size + 6) kb2 (by first | assumption | (simp; done) | (simp; omega))
  go_wp2_with fail
  rw [rounds_succ]
  go_wp2_with fail
  refine (Top.testAny _ _ _ _ _ (by decide) (by decide) ha hb).mono ?_
  rintro e va3 ⟨rfl, ka3⟩
  rw [F.a3]; simp only [Sp.resB]
  obtain ⟨ca3, za3⟩ := step (B := w1.heap.size + 6) ka3 (by first | assumption | (simp; done) | (simp; omega))
  go_wp2_with fail
  refine (Top.testAny _ _ _ _ _ (by decide) (by decide) ha hb).mono ?_
  rintro e vb3 ⟨rfl, kb3⟩
  rw [F.b3]; simp only [Sp.resB]
  obtain ⟨cb3, zb3⟩ := step (B := w1.heap.size + 6) kb3 (by first | assumption | (simp; done) | (simp; omega))
  go_wp2_with fail
  rw [rounds_succ]
  go_wp2_with fail
  refine (Top.testAny _ _ _ _ _ (by decide) (by decide) ha hb).mono ?_
  rintro e va4 ⟨rfl, ka4⟩
  rw [F.a4]; simp only [Sp.resB]
  obtain ⟨ca4, za4⟩ := step (B := w1.heap.size + 6) ka4 (by first | assumption | (simp; done) | (simp; omega))
  go_wp2_with fail
  refine (Top.testAny _ _ _ _ _ (by decide) (by decide) ha hb).mono ?_
  rintro e vb4 ⟨rfl, kb4⟩
  rw [F.b4]; simp only [Sp.resB]
  obtain ⟨cb4, zb4⟩ := step (B := w1.heap.size + 6) kb4 (by first | assumption | (simp; done) | (simp; omega))
  go_wp2_with fail
  rw [rounds_succ]
  go_wp2_with fail
  refine (Top.testAny _ _ _ _ _ (by decide) (by decide) ha hb).mono ?_
  rintro e va5 ⟨rfl, ka5⟩
  rw [F.a5]; simp only [Sp.resB]
  obtain ⟨ca5, za5⟩ := step (B := w1.heap.size + 6) ka5 (by first | assumption | (simp; done) | (simp; omega))
  go_wp2_with fail
  refine (Top.testAny _ _ _ _ _ (by decide) (by decide) ha hb).mono ?_
  rintro e vb5 ⟨rfl, kb5⟩
  rw [F.b5]; simp only [Sp.resB]
  obtain ⟨cb5, zb5⟩ := step (B := w1.heap.size + 6) kb5 (by first | assumption | (simp; done) | (simp; omega))
  go_wp2_with fail
  rw [rounds_succ]
  go_wp2_with fail
  refine (Top.testAny _ _ _ _ _ (by decide) (by decide) (by first | assumption | exact Sp.W64_xor) (by first | assumption | exact Sp.W64_xor)).mono ?_
  rintro e u0 ⟨rfl, ku0⟩
  rw [F.a4]; simp only [Sp.resB]
  go_wp2_with fail
  refine (Top.testAny _ _ _ _ _ (by decide) (by decide) (by first | assumption | exact Sp.W64_xor) (by first | assumption | exact Sp.W64_xor)).mono ?_
  rintro e u1 ⟨rfl, ku1⟩
  rw [HU.out]; simp only [Sp.resB]
  go_wp2_with fail
  refine (Top.testAny _ _ _ _ _ (by decide) (by decide) (by first | assumption | exact Sp.W64_xor) (by first | assumption | exact Sp.W64_xor)).mono ?_
  rintro e u2 ⟨rfl, ku2⟩
  rw [F.l]; simp only [Sp.resB]
  go_wp2_with fail
  refine (Top.testAny _ _ _ _ _ (by decide) (by decide) (by first | assumption | exact Sp.W64_xor) (by first | assumption | exact Sp.W64_xor)).mono ?_
  rintro e u3 ⟨rfl, ku3⟩
  rw [F.a2]; simp only [Sp.resB]
  go_wp2_with fail
  go_ret
  refine ⟨by simp, ?_⟩
  refine Sp.Ok.trans (Sp.Ok.trans ?_ ka1) ?_
  · repeat (first | exact hk1 | refine Sp.Ok.alloc ?_ _)
  · exact (((((((((kb1.trans ka2).trans kb2).trans ka3).trans kb3).trans ka4).trans kb4).trans ka5).trans kb5).trans ku0).trans ((ku1.trans ku2).trans ku3)
theorem walk (a b : Int) (wide : Bool) (h0 : (Lit.int .u64 a).wf = true) (h1 : (Lit.int .u64 b).wf = true) (w : World) :
    Calls Try.prog 7 #[.int .u64 a, .int .u64 b, .bool wide] w fun e w' => e = .returned (.bool true) ∧ Below w.heap.size w w' := by
  cases wide
  · exact walkF a b w (w64_of h0) (w64_of h1)
  · exact walkT a b w (w64_of h0) (w64_of h1)
end Go.Proofs.Ytjbmlnkacfbheaa.OrdersW
