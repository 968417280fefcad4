/-
  lru: check, at; what nobody made.
-/
import Derived.Test.YtifgfnifadmoaaaChnA
import Derived.Test.YtifgfnifadmoaaaMapStr
namespace Go.Proofs.Ytifgfnifadmoaaa.M
open Go.RowKit
set_option linter.unusedVariables false
set_option linter.unusedSectionVars false
set_option linter.unusedSimpArgs false
theorem eq_mapS (M : Nat) (w : World) : (binOp .eql 62 (.map (some M)) (.map none)).run Try.prog w = .ok (.bool false) w := by kernel_rfl
theorem eq_mapN (w : World) : (binOp .eql 62 (.map none) (.map none)).run Try.prog w = .ok (.bool true) w := by kernel_rfl
/-- A receiver that nobody made. -/
def NoOne (w : World) (p : Value) : Prop := p = .pointer none ∨ ∃ P, p = .pointer (some ⟨P, 0, none⟩) ∧ w.cell? ⟨P, 8, none⟩ = some (.map none)
theorem NoOne.but {w w' : World} {p : Value} (h : NoOne w p) (hb : But [] w w') : NoOne w' p := by
  rcases h with rfl | ⟨P, rfl, h⟩
  · exact .inl rfl
  · exact .inr ⟨P, rfl, cell_but hb h (by simp)⟩
theorem check_no {w : World} {p : Value} (h : NoOne w p) (a : Option Addr) (n c : Nat) : Calls Try.prog 32 #[p, .slice a n c] w fun e w' => e = .returned (.int .i64 1) ∧ w = w' := by
  rcases h with rfl | ⟨P, rfl, h⟩
  · go_enter Try.func32, Try.ntmps32
    go_wp2_with fail
    go_ret
    exact ⟨rfl, rfl⟩
  · have he := eq_mapN w
    go_enter Try.func32, Try.ntmps32
    go_wp2_with fail
    go_ret
    exact ⟨rfl, rfl⟩
theorem at_no {w : World} {p : Value} (h : NoOne w p) (place : Int) : Calls Try.prog 38 #[p, .int .i64 place] w fun e w' => e = .returned (.tuple #[.slice none 0 0, .int .i64 1]) ∧ w = w' := by
  rcases h with rfl | ⟨P, rfl, h⟩
  · go_enter Try.func38, Try.ntmps38
    go_wp2_with fail
    go_ret2
    exact ⟨rfl, rfl⟩
  · have he := eq_mapN w
    go_enter Try.func38, Try.ntmps38
    go_wp2_with fail
    go_ret2
    exact ⟨rfl, rfl⟩
theorem keys_no {w : World} {p : Value} (h : NoOne w p) : Calls Try.prog 12 #[p] w fun e w' => e = .returned (.slice none 0 0) ∧ w = w' := by
  rcases h with rfl | ⟨P, rfl, h⟩
  · go_enter Try.func12, Try.ntmps12
    go_wp2_with fail
    go_ret
    exact ⟨rfl, rfl⟩
  · have he := eq_mapN w
    go_enter Try.func12, Try.ntmps12
    go_wp2_with fail
    go_ret
    exact ⟨rfl, rfl⟩
theorem clone_nil (w : World) : Calls Try.prog 39 #[.slice none 0 0] w fun e w' => e = .returned (.slice none 0 0) ∧ w = w' := by
  have he : (binOp .eql 25 (.slice none 0 0) (.slice none 0 0)).run Try.prog w = .ok (.bool true) w := by kernel_rfl
  go_enter Try.func39, Try.ntmps39
  go_wp2_with fail
  go_ret
  exact ⟨rfl, rfl⟩
theorem lookup_no {w : World} {p : Value} (h : NoOne w p) (a : Option Addr) (n c : Nat) : Calls Try.prog 11 #[p, .slice a n c] w fun e w' => e = .returned (.tuple #[.int .i64 0, .int .i64 1]) ∧ w = w' := by
  have HC := Lib.hid (check_no h a n c)
  clear h
  go_enter Try.func11, Try.ntmps11
  go_wp2_with fail
  refine HC.out.mono ?_
  rintro e w1 ⟨rfl, rfl⟩
  go_wp2_with fail
  go_ret2
  exact ⟨rfl, rfl⟩
theorem update_no {w : World} {p : Value} (h : NoOne w p) (a : Option Addr) (n c : Nat) (v f : Value) : Calls Try.prog 10 #[p, .slice a n c, v, f] w fun e w' => e = .returned (.int .i64 1) ∧ w = w' := by
  have HC := Lib.hid (check_no h a n c)
  clear h
  go_enter Try.func10, Try.ntmps10
  go_wp2_with fail
  refine HC.out.mono ?_
  rintro e w1 ⟨rfl, rfl⟩
  go_wp2_with fail
  go_ret
  exact ⟨rfl, rfl⟩
theorem delete_no {w : World} {p : Value} (h : NoOne w p) (a : Option Addr) (n c : Nat) : Calls Try.prog 15 #[p, .slice a n c] w fun e w' => e = .returned (.int .i64 1) ∧ w = w' := by
  have HC := Lib.hid (check_no h a n c)
  clear h
  go_enter Try.func15, Try.ntmps15
  go_wp2_with fail
  refine HC.out.mono ?_
  rintro e w1 ⟨rfl, rfl⟩
  go_wp2_with fail
  go_ret
  exact ⟨rfl, rfl⟩
theorem value_no {w : World} {p : Value} (h : NoOne w p) (place : Int) : Calls Try.prog 17 #[p, .int .i64 place] w fun e w' => e = .returned (.tuple #[.slice none 0 0, .int .i64 1]) ∧ w = w' := by
  have HC := Lib.hid (at_no h place)
  clear h
  go_enter Try.func17, Try.ntmps17
  go_wp2_with fail
  refine HC.out.mono ?_
  rintro e w1 ⟨rfl, rfl⟩
  go_wp2_with fail
  refine (clone_nil w).mono ?_
  rintro e w1 ⟨rfl, rfl⟩
  go_wp2_with fail
  go_ret2
  exact ⟨rfl, rfl⟩
theorem set_no {w : World} {p : Value} (h : NoOne w p) (place off : Int) (v : Value) : Calls Try.prog 25 #[p, .int .i64 place, .int .i64 off, v] w fun e w' => e = .returned (.int .i64 1) ∧ w = w' := by
  have HC := Lib.hid (at_no h place)
  clear h
  go_enter Try.func25, Try.ntmps25
  go_wp2_with fail
  refine HC.out.mono ?_
  rintro e w1 ⟨rfl, rfl⟩
  go_wp2_with fail
  go_ret
  exact ⟨rfl, rfl⟩
def lenE (n K : Nat) : Int := if n = K then 0 else 2
theorem check_c (P M K n : Nat) (a : Option Addr) (c : Nat) (w : World) (h8 : w.cell? ⟨P, 8, none⟩ = some (.map (some M))) (h1 : w.cell? ⟨P, 1, none⟩ = some (.int .i64 K)) :
    Calls Try.prog 32 #[.pointer (some ⟨P, 0, none⟩), .slice a n c] w fun e w' => e = .returned (.int .i64 (lenE n K)) ∧ w = w' := by
  have he := eq_mapS M w
  by_cases hn : n = K
  · have HE : Hid (lenE n K = 0) := Lib.hid (if_pos hn)
    subst hn
    go_enter Try.func32, Try.ntmps32
    go_wp2_with fail
    go_ret
    exact ⟨by rw [HE.out]; rfl, rfl⟩
  · have HE : Hid (lenE n K = 2) := Lib.hid (if_neg hn)
    have hd : ((n : Int) == (K : Int)) = false := by simpa using fun h => hn (by omega)
    clear hn
    go_enter Try.func32, Try.ntmps32
    go_wp2_with fail
    go_ret
    exact ⟨by rw [HE.out]; rfl, rfl⟩
theorem at_out (P M N Rm : Nat) (place : Int) (w : World) (h8 : w.cell? ⟨P, 8, none⟩ = some (.map (some M))) (h10 : w.cell? ⟨P, 10, none⟩ = some (.slice (some ⟨Rm, 0, none⟩) N N)) (hp : place < 0 ∨ (N : Int) ≤ place) :
    Calls Try.prog 38 #[.pointer (some ⟨P, 0, none⟩), .int .i64 place] w fun e w' => e = .returned (.tuple #[.slice none 0 0, .int .i64 6]) ∧ w = w' := by
  have he := eq_mapS M w
  by_cases h0 : place < 0
  · clear hp
    go_enter Try.func38, Try.ntmps38
    go_wp2_with fail
    go_ret2
    exact ⟨rfl, rfl⟩
  · have hn : (N : Int) ≤ place := by omega
    clear hp
    go_enter Try.func38, Try.ntmps38
    go_wp2_with fail
    go_ret2
    exact ⟨rfl, rfl⟩
theorem at_in (P M N Rm p : Nat) (s : Option Addr) (V c : Nat) (w : World) (h8 : w.cell? ⟨P, 8, none⟩ = some (.map (some M))) (h10 : w.cell? ⟨P, 10, none⟩ = some (.slice (some ⟨Rm, 0, none⟩) N N)) (hp : p < N) (hs : w.cell? ⟨Rm, p, none⟩ = some (.slice s V c)) :
    Calls Try.prog 38 #[.pointer (some ⟨P, 0, none⟩), .int .i64 (p : Int)] w fun e w' => e = .returned (.tuple #[.slice s V c, .int .i64 0]) ∧ w = w' := by
  have he := eq_mapS M w
  have h0 : (0 : Int) ≤ p := by omega
  have hn : (p : Int) < N := by omega
  clear hp
  go_enter Try.func38, Try.ntmps38
  go_wp2_with fail
  go_ret2
  exact ⟨rfl, rfl⟩
end Go.Proofs.Ytifgfnifadmoaaa.M
