/-
  cell: New; what nobody made.
-/
import Derived.Test.YtmaeiifhmngllaaStoreE
namespace Go.Proofs.Ytmaeiifhmngllaa.M
open Go.RowKit
set_option linter.unusedVariables false
set_option linter.unusedSectionVars false
set_option linter.unusedSimpArgs false
def S0 : Stk := ⟨fun _ => c0, fun _ => 0, fun _ => 0⟩
theorem s0_inv : Inv S0 := ⟨fun _ _ => ⟨Int.le_refl 0, Int.zero_le_ofNat 255⟩, fun _ _ _ => rfl, fun _ _ _ => rfl, fun _ _ => ⟨Int.le_refl 0, Int.zero_le_ofNat 255⟩⟩
def V0 (made : Bool) : Array Value := ((List.range 833).map (S0.val made)).toArray
theorem zero_s (w : World) : (zeroValue 57).run Try.prog w = .ok (.agg (V0 false)) w := by kernel_rfl
theorem v0_made : (V0 false).setIfInBounds 832 (.bool true) = V0 true := by kernel_rfl
theorem v0_size : (V0 false).size = 833 := by simp [V0]
theorem v0_blk (w : World) (made : Bool) : Blk (w.alloc (.cells (V0 made) 57)) w.heap.size 57 833 (S0.val made) :=
  ⟨_, al_at _ _, by simp [V0], fun i hi => by
    unfold V0
    rw [List.getElem?_toArray, List.getElem?_map, List.getElem?_range hi]
    rfl⟩
set_option maxRecDepth 100000 in
theorem new_c (w : World) : Calls Try.prog 10 #[] w fun e w' => e = .returned (.pointer (some ⟨w.heap.size, 0, none⟩)) ∧ Blk w' w.heap.size 57 833 (S0.val true) ∧ But [] w w' := by
  have hv := zero_s w
  have HB := Lib.hid (v0_blk w true)
  have hs := v0_size
  rw [← v0_made] at HB
  obtain ⟨V, hV⟩ : ∃ V, V = V0 false := ⟨_, rfl⟩
  rw [← hV] at hv HB hs
  clear hV
  go_enter Try.func10, Try.ntmps10
  go_wp2_with fail
  go_ret
  exact ⟨rfl, HB.out, (But.refl _ _).alloc _⟩
theorem Write_badK (p : Value) (off : Int) (a : Option Addr) (n c : Nat) (w : World) (hC : ∀ b, Calls Try.prog 25 #[p, .int .i64 off, .int .i64 (n : Int), .bool b] w fun e w' => e = .returned (.int .i64 1) ∧ w = w') :
    Calls Try.prog 19 #[p, .int .i64 off, .slice a n c] w fun e w' => e = .returned (.int .i64 1) ∧ w = w' := by
  have HC := Lib.hid hC
  clear hC
  go_enter Try.func19, Try.ntmps19
  go_wp2_with fail
  refine (HC.out _).mono ?_
  rintro e w1 ⟨rfl, rfl⟩
  go_wp2_with fail
  go_ret
  exact ⟨rfl, rfl⟩
theorem Read_badK (p : Value) (off n : Int) (w : World) (hC : ∀ b, Calls Try.prog 25 #[p, .int .i64 off, .int .i64 n, .bool b] w fun e w' => e = .returned (.int .i64 1) ∧ w = w') :
    Calls Try.prog 14 #[p, .int .i64 off, .int .i64 n] w fun e w' => e = .returned (.tuple #[.slice none 0 0, .int .i64 1]) ∧ w = w' := by
  have HC := Lib.hid hC
  clear hC
  by_cases h0 : 0 ≤ n
  · go_enter Try.func14, Try.ntmps14
    go_wp2_with fail
    refine (HC.out _).mono ?_
    rintro e w1 ⟨rfl, rfl⟩
    go_wp2_with fail
    go_ret2
    exact ⟨rfl, rfl⟩
  · have hd : decide (0 ≤ n) = false := decide_eq_false h0
    clear h0
    go_enter Try.func14, Try.ntmps14
    go_wp2_with fail
    refine (HC.out _).mono ?_
    rintro e w1 ⟨rfl, rfl⟩
    go_wp2_with fail
    go_ret2
    exact ⟨rfl, rfl⟩
/-- A receiver that nobody made. -/
def NoOne (w : World) (p : Value) : Prop := p = .pointer none ∨ ∃ P S, p = .pointer (some ⟨P, 0, none⟩) ∧ Blk w P 57 833 (Stk.val S false)
theorem NoOne.but {w w' : World} {p : Value} (h : NoOne w p) (hb : But [] w w') : NoOne w' p := by
  rcases h with rfl | ⟨P, S, rfl, h⟩
  · exact .inl rfl
  · exact .inr ⟨P, S, rfl, h.but hb (by simp)⟩
theorem no_check {w : World} {p : Value} (h : NoOne w p) (off n : Int) (b : Bool) : Calls Try.prog 25 #[p, .int .i64 off, .int .i64 n, .bool b] w fun e w' => e = .returned (.int .i64 1) ∧ w = w' := by
  rcases h with rfl | ⟨P, S, rfl, h⟩
  · exact check_nil _ _ _ _
  · exact check_un _ _ _ _ _ _ h
theorem no_load {w : World} {p : Value} (h : NoOne w p) (off n : Int) : Calls Try.prog 12 #[p, .int .i64 off, .int .i64 n] w fun e w' => e = .returned (.tuple #[c0.agg, .int .i64 1]) ∧ But [] w w' :=
  callsIn_wide.1 (load_badK _ off n 1 w (fun w1 hb => no_check (h.but hb) off n _) rfl)
theorem no_store {w : World} {p : Value} (h : NoOne w p) (off n : Int) (c : CV) (hwf : (Lit.int .u8 c.k).wf = true) : Calls Try.prog 22 #[p, .int .i64 off, .int .i64 n, c.agg] w fun e w' => e = .returned (.int .i64 1) ∧ But [] w w' :=
  store_bad _ off n c 1 w hwf (fun w1 hb => no_check (h.but hb) off n _) rfl
theorem no_write {w : World} {p : Value} (h : NoOne w p) (off : Int) (a : Option Addr) (n c : Nat) : Calls Try.prog 19 #[p, .int .i64 off, .slice a n c] w fun e w' => e = .returned (.int .i64 1) ∧ w = w' := Write_badK p off a n c w (no_check h off n)
theorem no_read {w : World} {p : Value} (h : NoOne w p) (off n : Int) : Calls Try.prog 14 #[p, .int .i64 off, .int .i64 n] w fun e w' => e = .returned (.tuple #[.slice none 0 0, .int .i64 1]) ∧ w = w' := Read_badK p off n w (no_check h off n)
end Go.Proofs.Ytmaeiifhmngllaa.M
