/-
  tnum.Has, Leq; span.Leq.
-/
import Derived.Test.YtmbmmcippglfoaaGC
namespace Go.Proofs.Ytmbmmcippglfoaa.M
open Go.RowKit Go.Shelf
set_option linter.unusedVariables false
set_option linter.unusedSectionVars false
set_option linter.unusedSimpArgs false
theorem bx {w w2 : World} {cs : Array Value} {t : TypeId} (hb : But [] (w.alloc (.cells cs t)) w2) : w2.heap[w.heap.size]? = some (.cells cs t) := hb.heap (al_at _ _) (by simp)
theorem beq_cast (a b : Nat) : (((a : Nat) : Int) == ((b : Nat) : Int)) = (a == b) := by rw [Bool.eq_iff_iff, beq_iff_eq, beq_iff_eq]; omega
set_option maxHeartbeats 2000000 in
theorem tnHas_c (v m n : Nat) (w : World) : Calls Try.prog 31 #[.agg #[.int .u64 v, .int .u64 m], .int .u64 n] w fun e w' => e = .returned (.bool (tnHas ⟨v, m⟩ n)) ∧ But [] w w' := by
  cases hA : (((uand v m : Nat) : Int) == 0) with
  | false =>
    have HE : Hid (tnHas ⟨v, m⟩ n = false) := Lib.hid (by simp [tnHas, tnR, hA])
    go_enter Try.func31, Try.ntmps31
    go_wp2
    go_ret
    exact ⟨(by rw [HE.out]; first | done | rfl), by repeat (first | exact But.refl _ _ | refine But.alloc ?_ _)⟩
  | true =>
    have HE : Hid (tnHas ⟨v, m⟩ n = (((undn n m : Nat) : Int) == ((v : Nat) : Int))) := Lib.hid (by rw [beq_cast]; simp [tnHas, tnR, hA])
    go_enter Try.func31, Try.ntmps31
    go_wp2
    go_ret
    exact ⟨(by rw [HE.out]; first | done | rfl), by repeat (first | exact But.refl _ _ | refine But.alloc ?_ _)⟩
set_option maxHeartbeats 2000000 in
theorem tnLeq_c (v m v2 m2 : Nat) (w : World) : Calls Try.prog 28 #[.agg #[.int .u64 v, .int .u64 m], .agg #[.int .u64 v2, .int .u64 m2]] w fun e w' => e = .returned (.bool (tnLeq ⟨v, m⟩ ⟨v2, m2⟩)) ∧ But [] w w' := by
  cases hA : (((uand v m : Nat) : Int) == 0) with
  | false =>
    have HE : Hid (tnLeq ⟨v, m⟩ ⟨v2, m2⟩ = false) := Lib.hid (by simp [tnLeq, tnR, hA])
    go_enter Try.func28, Try.ntmps28
    go_wp2
    go_ret
    exact ⟨(by rw [HE.out]; first | done | rfl), by repeat (first | exact But.refl _ _ | refine But.alloc ?_ _)⟩
  | true =>
    cases hB : (((uand v2 m2 : Nat) : Int) == 0) with
    | false =>
      have HE : Hid (tnLeq ⟨v, m⟩ ⟨v2, m2⟩ = false) := Lib.hid (by simp [tnLeq, tnR, hB])
      go_enter Try.func28, Try.ntmps28
      go_wp2
      go_ret
      exact ⟨(by rw [HE.out]; first | done | rfl), by repeat (first | exact But.refl _ _ | refine But.alloc ?_ _)⟩
    | true =>
      cases hC : (((undn m m2 : Nat) : Int) == 0) with
      | false =>
        have HE : Hid (tnLeq ⟨v, m⟩ ⟨v2, m2⟩ = false) := Lib.hid (by have h := beq_cast (undn m m2) 0; rw [Int.natCast_zero] at h; rw [hC] at h; simp only [tnLeq, ← h, Bool.and_false, Bool.false_and])
        go_enter Try.func28, Try.ntmps28
        go_wp2
        go_ret
        exact ⟨(by rw [HE.out]; first | done | rfl), by repeat (first | exact But.refl _ _ | refine But.alloc ?_ _)⟩
      | true =>
        have HE : Hid (tnLeq ⟨v, m⟩ ⟨v2, m2⟩ = (((undn v m2 : Nat) : Int) == ((v2 : Nat) : Int))) := Lib.hid (by have h := beq_cast (undn m m2) 0; rw [Int.natCast_zero] at h; rw [hC] at h; rw [beq_cast]; simp only [tnLeq, tnR, hA, hB, ← h, Bool.true_and])
        go_enter Try.func28, Try.ntmps28
        go_wp2
        go_ret
        exact ⟨(by rw [HE.out]; first | done | rfl), by repeat (first | exact But.refl _ _ | refine But.alloc ?_ _)⟩
def pairV (s : Sp) : Value := .agg #[.int .u64 s.lo, .int .u64 s.hi, .int .i64 s.sl, .int .i64 s.sh]
set_option maxHeartbeats 2000000 in
theorem spOf_c (lo hi : Nat) (sl sh : Int) (w : World) : Calls Try.prog 59 #[.agg #[.int .u64 lo, .int .u64 hi, .int .i64 sl, .int .i64 sh]] w fun e w' => e = .returned (.agg #[.int .u64 lo, .int .u64 hi, .int .i64 sl, .int .i64 sh]) ∧ w' = (w.alloc (.cells #[.int .u64 lo, .int .u64 hi, .int .i64 sl, .int .i64 sh] 26)).alloc (.cells #[.int .u64 lo, .int .u64 hi, .int .i64 sl, .int .i64 sh] 89) := by
  go_enter Try.func59, Try.ntmps59
  go_wp2
  exact bodyPost_ret (v := .agg #[.int .u64 lo, .int .u64 hi, .int .i64 sl, .int .i64 sh]) (by simp [results, Try.results59, go_sem]) rfl ⟨rfl, rfl⟩
end Go.Proofs.Ytmbmmcippglfoaa.M
