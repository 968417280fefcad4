/-
  cell: sizes, the check ahead of all, a word as a cell.
-/
import Derived.Test.YtmaeiifhmngllaaCellA
import Derived.Test.YtmaeiifhmngllaaAlloc
import Derived.LoopTactic
namespace Go.Proofs.Ytmaeiifhmngllaa.M
open Go.RowKit
set_option linter.unusedVariables false
set_option linter.unusedSectionVars false
set_option linter.unusedSimpArgs false
def sizeB (n : Int) : Bool := decide (n = 1 ∨ n = 2 ∨ n = 4 ∨ n = 8)
def pw (k : Nat) : Int := 2 ^ k
theorem index_c (g : Nat) (n : Int) (w : World) (hc : ∀ k, k < 4 → w.cell? ⟨g, k, none⟩ = some (.int .i64 (pw k))) : Calls Try.prog 44 #[.slice (some ⟨g, 0, none⟩) 4 4, .int .i64 n] w fun e w' => ∃ i : Int, e = .returned (.int .i64 i) ∧ decide (0 ≤ i) = sizeB n ∧ w = w' := by
  have HC := Lib.hid hc
  clear hc
  go_enter Try.func44, Try.ntmps44
  go_wp2_with fail
  go_loop [8] (fun i => ∃ k : Nat, k ≤ 4 ∧ i = .int .i64 k ∧ ∀ j, j < k → n ≠ pw j) (fun i => 4 - (intOf i).toNat)
  case atStart => exact ⟨0, by omega, rfl, fun j hj => by omega⟩
  case round =>
    obtain ⟨k, hk, rfl, hne⟩ := hrel
    have HNE := Lib.hid hne
    clear hne
    by_cases hlt : k < 4
    · obtain ⟨x, hx⟩ : ∃ x, x = pw k := ⟨_, rfl⟩
      have c1 : w.cell? ⟨g, k, none⟩ = some (.int .i64 x) := by rw [hx]; exact HC.out k hlt
      have hk0 : (0 : Int) ≤ k := by omega
      have hk4 : (k : Int) < 4 := by omega
      by_cases he : n = x
      · have HE : Hid (decide (0 ≤ (k : Int)) = sizeB n) := Lib.hid (by
          rw [he, hx, decide_eq_true hk0]
          have h4 : ∀ k, k < 4 → true = sizeB (pw k) := by decide
          exact h4 k hlt)
        have heq : (n == x) = true := by simpa using he
        clear he hx
        go_wp2_with fail
        go_ret
        exact ⟨_, rfl, HE.out, rfl⟩
      · have heq : (n == x) = false := by simpa using he
        have HN2 : Hid (∀ j, j < k + 1 → n ≠ pw j) := Lib.hid fun j hj => by
          by_cases e : j = k
          · subst e; rw [← hx]; exact he
          · exact HNE.out j (by omega)
        clear he hx
        go_wp2_with fail
        go_round
        case rel => exact ⟨k + 1, by omega, by go_num, HN2.out⟩
        case measure => simp [intOf]; omega
    · obtain rfl : k = 4 := by omega
      have HE : Hid (decide ((0 : Int) ≤ -1) = sizeB n) := Lib.hid (by
        have h0 := HNE.out 0 (by omega)
        have h1 := HNE.out 1 (by omega)
        have h2 := HNE.out 2 (by omega)
        have h3 := HNE.out 3 (by omega)
        simp only [pw] at h0 h1 h2 h3
        unfold sizeB
        rw [decide_eq_false (by omega), decide_eq_false (by omega)])
      go_wp2_with fail
      go_ret
      exact ⟨_, rfl, HE.out, rfl⟩
theorem sized_c (n : Int) (w : World) : Calls Try.prog 26 #[.int .i64 n] w fun e w' => e = .returned (.bool (sizeB n)) ∧ But [] w w' := by
  have HI := Lib.hid (index_c w.heap.size n (w.alloc (.cells #[.int .i64 1, .int .i64 2, .int .i64 4, .int .i64 8] 3)) (fun k hk => by
    rw [cl_of (al_at _ _)]
    have h : ∀ k, k < 4 → (#[Value.int .i64 1, .int .i64 2, .int .i64 4, .int .i64 8] : Array Value)[k]? = some (.int .i64 (pw k)) := fun k hk => by
      match k, hk with
      | 0, _ => rfl
      | 1, _ => rfl
      | 2, _ => rfl
      | 3, _ => rfl
    exact h k hk))
  have HCC : Hid (Calls Try.prog 38 #[.slice (some ⟨w.heap.size, 0, none⟩) 4 4, .int .i64 n] (w.alloc (.cells #[.int .i64 1, .int .i64 2, .int .i64 4, .int .i64 8] 3)) fun e w' => e = .returned (.bool (sizeB n)) ∧ w.alloc (.cells #[.int .i64 1, .int .i64 2, .int .i64 4, .int .i64 8] 3) = w') := Lib.hid (by
    obtain ⟨W, hW⟩ : ∃ W, W = w.alloc (.cells #[.int .i64 1, .int .i64 2, .int .i64 4, .int .i64 8] 3) := ⟨_, rfl⟩
    rw [← hW] at HI ⊢
    clear hW
    go_enter Try.func38, Try.ntmps38
    go_wp2_with fail
    refine HI.out.mono ?_
    rintro e w' ⟨i, rfl, hi, rfl⟩
    have HI2 := Lib.hid hi
    clear hi
    go_wp2_with fail
    go_ret
    exact ⟨by rw [← HI2.out]; rfl, rfl⟩)
  go_enter Try.func26, Try.ntmps26
  go_wp2_with fail
  refine HCC.out.mono ?_
  rintro e w' ⟨rfl, rfl⟩
  go_wp2_with fail
  go_ret
  exact ⟨rfl, (But.refl [] w).alloc _⟩
theorem check_nil (off n : Int) (may : Bool) (w : World) : Calls Try.prog 25 #[.pointer none, .int .i64 off, .int .i64 n, .bool may] w fun e w' => e = .returned (.int .i64 1) ∧ w = w' := by
  go_enter Try.func25, Try.ntmps25
  go_wp2_with fail
  go_ret
  exact ⟨rfl, rfl⟩
theorem check_un (P : Nat) (S : Stk) (off n : Int) (may : Bool) (w : World) (hB : Blk w P 57 833 (S.val false)) : Calls Try.prog 25 #[.pointer (some ⟨P, 0, none⟩), .int .i64 off, .int .i64 n, .bool may] w fun e w' => e = .returned (.int .i64 1) ∧ w = w' := by
  have c1 : w.cell? ⟨P, 832, none⟩ = some (.bool false) := hB.cell' (by omega) (val_made _ _)
  clear hB
  go_enter Try.func25, Try.ntmps25
  go_wp2_with fail
  go_ret
  exact ⟨rfl, rfl⟩
def checkE (off n : Int) (may : Bool) : Int := if may then (if 0 ≤ off ∧ off ≤ 512 - n then 0 else 32) else 2
theorem check_c (P : Nat) (S : Stk) (off n : Int) (may : Bool) (w : World) (hB : Blk w P 57 833 (S.val true)) (hn : may = true → 0 ≤ n ∧ n ≤ 512) : Calls Try.prog 25 #[.pointer (some ⟨P, 0, none⟩), .int .i64 off, .int .i64 n, .bool may] w fun e w' => e = .returned (.int .i64 (checkE off n may)) ∧ w = w' := by
  have c1 : w.cell? ⟨P, 832, none⟩ = some (.bool true) := hB.cell' (by omega) (val_made _ _)
  clear hB
  cases may with
  | false =>
    clear hn
    go_enter Try.func25, Try.ntmps25
    go_wp2_with fail
    go_ret
    exact ⟨rfl, rfl⟩
  | true =>
    obtain ⟨h0, h5⟩ := hn rfl
    clear hn
    by_cases h1 : off < 0
    · have HE : Hid (checkE off n true = 32) := Lib.hid (by unfold checkE; rw [if_pos rfl, if_neg (by omega)])
      go_enter Try.func25, Try.ntmps25
      go_wp2_with fail
      go_ret
      exact ⟨by rw [HE.out]; rfl, rfl⟩
    · by_cases h2 : off ≤ 512 - n
      · have HE : Hid (checkE off n true = 0) := Lib.hid (by unfold checkE; rw [if_pos rfl, if_pos (by omega)])
        have h3 : 0 ≤ off := by omega
        have h4 : ¬ (512 - n < off) := by omega
        go_enter Try.func25, Try.ntmps25
        go_wp2_with fail
        go_ret
        exact ⟨by rw [HE.out]; rfl, rfl⟩
      · have HE : Hid (checkE off n true = 32) := Lib.hid (by unfold checkE; rw [if_pos rfl, if_neg (by omega)])
        have h3 : 0 ≤ off := by omega
        have h4 : 512 - n < off := by omega
        go_enter Try.func25, Try.ntmps25
        go_wp2_with fail
        go_ret
        exact ⟨by rw [HE.out]; rfl, rfl⟩
theorem word_c (x : Int) (w : World) : Calls Try.prog 24 #[.int .u64 x] w fun e w' => e = .returned (.agg #[.int .u8 1, .int .u64 x, .int .i64 0, .int .i64 0]) ∧ But [] w w' := by
  go_enter Try.func24, Try.ntmps24
  go_wp2_with fail
  refine bodyPost_ret (v := .agg #[.int .u8 1, .int .u64 x, .int .i64 0, .int .i64 0]) (by simp [results, Try.results24, go_sem]) rfl ⟨rfl, ?_⟩
  repeat (first | exact But.refl _ _ | refine But.alloc ?_ _ | refine But.setCell ?_ (.inr (by simp)) _)
end Go.Proofs.Ytmaeiifhmngllaa.M
