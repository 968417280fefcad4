/-
  The contract of 'word.test', 32 bits wide: it tells 'Sp.tst' of the two comparisons, and writes nothing that was there.
-/
import Derived.Test.YtlhegejfaihgmaaLit
import Derived.Test.YtlhegejfaihgmaaWordSpecB
import Derived.Test.YtlhegejfaihgmaaWordKeys
import Derived.WalkLawsBesides
import Derived.WalkSpells
import Derived.Handy
import Derived.Lib.Hide
import Derived.Deep.CutBlock
namespace Go.Proofs.Ytlhegejfaihgmaa.Tst32
open Go.RowKit
set_option linter.unusedVariables false
theorem keyed : Go.Maps.Keyed Try.prog 5 := Go.Maps.int_keyed Try.underlying5
theorem key (n : Int) (h1 : 0 ≤ n) (h2 : n < 256) : (keyOf Try.prog 5 (.int .u8 n)).isSome = true := by
  rw [Go.Maps.keyOf_int_mk Try.underlying5 (WalkArith.wf_u8 (by omega))]
  rfl
theorem ret_int {a b : Int} (h : a = b) : Ending.returned (.int .i64 a) = .returned (.int .i64 b) := by rw [h]
theorem cmpU (a b : Int) (w : World) : Calls Try.prog 79 #[.int .u32 a, .int .u32 b] w fun e w' => e = .returned (.int .i64 (Sp.cmpI a b)) ∧ w = w' := by
  have hn : ∀ x : Int, (x != x) = false := fun x => by simp
  go_enter Try.func79, Try.ntmps79
  go_wp2
  all_goals (go_ret; exact ⟨ret_int (by unfold Sp.cmpI; first | omega | (split <;> first | omega | (split <;> omega))), rfl⟩)
theorem cmpS (a b : Int) (w : World) : Calls Try.prog 80 #[.int .i32 a, .int .i32 b] w fun e w' => e = .returned (.int .i64 (Sp.cmpI a b)) ∧ w = w' := by
  have hn : ∀ x : Int, (x != x) = false := fun x => by simp
  go_enter Try.func80, Try.ntmps80
  go_wp2
  all_goals (go_ret; exact ⟨ret_int (by unfold Sp.cmpI; first | omega | (split <;> first | omega | (split <;> omega))), rfl⟩)
def tab (c s a b : Int) : List (Nat × Value × Value) := [(3, .int .u8 16, .bool (c == 0)), (6, .int .u8 80, .bool (c != 0)), (11, .int .u8 64, .bool ((bits .and .u32 a b) != 0)), (14, .int .u8 32, .bool (decide (c > 0))), (17, .int .u8 48, .bool (decide (c ≥ 0))), (20, .int .u8 160, .bool (decide (c < 0))), (23, .int .u8 176, .bool (decide (c ≤ 0))), (26, .int .u8 96, .bool (decide (s > 0))), (29, .int .u8 112, .bool (decide (s ≥ 0))), (32, .int .u8 192, .bool (decide (s < 0))), (35, .int .u8 208, .bool (decide (s ≤ 0)))]
def vals (c s a b op : Int) (mv : Value) : List (Tmp × Value) := [(20, (.int .i64 c)), (21, .bool (c == 0)), (22, (.int .i64 c)), (23, .bool (c != 0)), (24, (.int .u32 a)), (25, (.int .u32 b)), (26, .int .u32 (bits .and .u32 a b)), (27, .bool ((bits .and .u32 a b) != 0)), (28, (.int .i64 c)), (29, .bool (decide (c > 0))), (30, (.int .i64 c)), (31, .bool (decide (c ≥ 0))), (32, (.int .i64 c)), (33, .bool (decide (c < 0))), (34, (.int .i64 c)), (35, .bool (decide (c ≤ 0))), (36, (.int .i64 s)), (37, .bool (decide (s > 0))), (38, (.int .i64 s)), (39, .bool (decide (s ≥ 0))), (40, (.int .i64 s)), (41, .bool (decide (s < 0))), (42, (.int .i64 s)), (43, .bool (decide (s ≤ 0))), (44, mv), (45, (.int .u8 op)), (46, .tuple #[((Lit.lk (List.map (fun p => p.2) (tab c s a b)) (.int .u8 op)).getD (.bool false)), (.bool (Lit.lk (List.map (fun p => p.2) (tab c s a b)) (.int .u8 op)).isSome)]), (18, .tuple #[((Lit.lk (List.map (fun p => p.2) (tab c s a b)) (.int .u8 op)).getD (.bool false)), (.bool (Lit.lk (List.map (fun p => p.2) (tab c s a b)) (.int .u8 op)).isSome)]), (47, ((Lit.lk (List.map (fun p => p.2) (tab c s a b)) (.int .u8 op)).getD (.bool false))), (48, (.bool (Lit.lk (List.map (fun p => p.2) (tab c s a b)) (.int .u8 op)).isSome)), (6, ((Lit.lk (List.map (fun p => p.2) (tab c s a b)) (.int .u8 op)).getD (.bool false))), (7, (.bool (Lit.lk (List.map (fun p => p.2) (tab c s a b)) (.int .u8 op)).isSome))]
theorem lk_is (c s a b op : Int) : Lit.lk (List.map (fun p => p.2) (tab c s a b)) (.int .u8 op) = (Sp.tst c s (bits .and .u32 a b) op).map .bool := by
  by_cases h16 : op = 16
  · subst h16; rfl
  by_cases h80 : op = 80
  · subst h80; rfl
  by_cases h64 : op = 64
  · subst h64; rfl
  by_cases h32 : op = 32
  · subst h32; rfl
  by_cases h48 : op = 48
  · subst h48; rfl
  by_cases h160 : op = 160
  · subst h160; rfl
  by_cases h176 : op = 176
  · subst h176; rfl
  by_cases h96 : op = 96
  · subst h96; rfl
  by_cases h112 : op = 112
  · subst h112; rfl
  by_cases h192 : op = 192
  · subst h192; rfl
  by_cases h208 : op = 208
  · subst h208; rfl
  have e : Sp.tst c s (bits .and .u32 a b) op = none := by
    unfold Sp.tst
    simp [h16, h80, h64, h32, h48, h160, h176, h96, h112, h192, h208]
  rw [e]
  simp [Lit.lk, tab, Lit.code, Ne.symm h16, Ne.symm h80, Ne.symm h64, Ne.symm h32, Ne.symm h48, Ne.symm h160, Ne.symm h176, Ne.symm h96, Ne.symm h112, Ne.symm h192, Ne.symm h208]
set_option maxRecDepth 100000 in
set_option maxHeartbeats 4000000 in
theorem any (op a b : Int) (w : World) (hop : 0 ≤ op) (hop2 : op < 256) (ha : 0 ≤ a) (ha2 : a < 4294967296) (hb : 0 ≤ b) (hb2 : b < 4294967296) :
    Calls Try.prog 30 #[.int .u8 op, .int .u32 a, .int .u32 b] w fun e w' => e = .returned (Sp.resB (Sp.tst (Sp.cmpI a b) (Sp.cmpI (wrap32 a) (wrap32 b)) (bits .and .u32 a b) op)) ∧ Below w.heap.size w w' := by
  go_enter Try.func30, Try.ntmps30
  go_upto_region 2 with (first | (go_at_call 79; refine (cmpU _ _ _).mono ?_; rintro e w' ⟨rfl, rfl⟩) | (go_at_call 80; refine (cmpS _ _ _).mono ?_; rintro e w' ⟨rfl, rfl⟩))
  obtain ⟨c, hc⟩ : ∃ c, c = Sp.cmpI a b := ⟨_, rfl⟩
  obtain ⟨s, hs⟩ : ∃ s, s = Sp.cmpI (wrap32 a) (wrap32 b) := ⟨_, rfl⟩
  have HC := Lib.hid hc
  have HS := Lib.hid hs
  rw [← hc, ← hs]
  clear hc hs
  refine Lit.region_lit3 keyed Try.underlying76 0 19 (vals c s a b op) (tab c s a b) (by kernel_rfl) (Lit.ops_cons (Lit.ok_make (by kernel_rfl) rfl rfl) (Lit.ops_cons (Lit.ok_value 20 (by kernel_rfl) rfl (fun W _ => by kernel_rfl)) (Lit.ops_cons (Lit.ok_value 21 (by kernel_rfl) rfl (fun W _ => by kernel_rfl)) (Lit.ops_cons (Lit.ok_insert _ _ 0 (by kernel_rfl) rfl rfl (by kernel_rfl)) (Lit.ops_cons (Lit.ok_value 22 (by kernel_rfl) rfl (fun W _ => by kernel_rfl)) (Lit.ops_cons (Lit.ok_value 23 (by kernel_rfl) rfl (fun W _ => by kernel_rfl)) (Lit.ops_cons (Lit.ok_insert _ _ 1 (by kernel_rfl) rfl rfl (by kernel_rfl)) (Lit.ops_cons (Lit.ok_value 24 (by kernel_rfl) rfl (fun W _ => by kernel_rfl)) (Lit.ops_cons (Lit.ok_value 25 (by kernel_rfl) rfl (fun W _ => by kernel_rfl)) (Lit.ops_cons (Lit.ok_value 26 (by kernel_rfl) rfl (fun W _ => by kernel_rfl)) (Lit.ops_cons (Lit.ok_value 27 (by kernel_rfl) rfl (fun W _ => by kernel_rfl)) (Lit.ops_cons (Lit.ok_insert _ _ 2 (by kernel_rfl) rfl rfl (by kernel_rfl)) (Lit.ops_cons (Lit.ok_value 28 (by kernel_rfl) rfl (fun W _ => by kernel_rfl)) (Lit.ops_cons (Lit.ok_value 29 (by kernel_rfl) rfl (fun W _ => by kernel_rfl)) (Lit.ops_cons (Lit.ok_insert _ _ 3 (by kernel_rfl) rfl rfl (by kernel_rfl)) (Lit.ops_cons (Lit.ok_value 30 (by kernel_rfl) rfl (fun W _ => by kernel_rfl)) (Lit.ops_cons (Lit.ok_value 31 (by kernel_rfl) rfl (fun W _ => by kernel_rfl)) (Lit.ops_cons (Lit.ok_insert _ _ 4 (by kernel_rfl) rfl rfl (by kernel_rfl)) (Lit.ops_cons (Lit.ok_value 32 (by kernel_rfl) rfl (fun W _ => by kernel_rfl)) (Lit.ops_cons (Lit.ok_value 33 (by kernel_rfl) rfl (fun W _ => by kernel_rfl)) (Lit.ops_cons (Lit.ok_insert _ _ 5 (by kernel_rfl) rfl rfl (by kernel_rfl)) (Lit.ops_cons (Lit.ok_value 34 (by kernel_rfl) rfl (fun W _ => by kernel_rfl)) (Lit.ops_cons (Lit.ok_value 35 (by kernel_rfl) rfl (fun W _ => by kernel_rfl)) (Lit.ops_cons (Lit.ok_insert _ _ 6 (by kernel_rfl) rfl rfl (by kernel_rfl)) (Lit.ops_cons (Lit.ok_value 36 (by kernel_rfl) rfl (fun W _ => by kernel_rfl)) (Lit.ops_cons (Lit.ok_value 37 (by kernel_rfl) rfl (fun W _ => by kernel_rfl)) (Lit.ops_cons (Lit.ok_insert _ _ 7 (by kernel_rfl) rfl rfl (by kernel_rfl)) (Lit.ops_cons (Lit.ok_value 38 (by kernel_rfl) rfl (fun W _ => by kernel_rfl)) (Lit.ops_cons (Lit.ok_value 39 (by kernel_rfl) rfl (fun W _ => by kernel_rfl)) (Lit.ops_cons (Lit.ok_insert _ _ 8 (by kernel_rfl) rfl rfl (by kernel_rfl)) (Lit.ops_cons (Lit.ok_value 40 (by kernel_rfl) rfl (fun W _ => by kernel_rfl)) (Lit.ops_cons (Lit.ok_value 41 (by kernel_rfl) rfl (fun W _ => by kernel_rfl)) (Lit.ops_cons (Lit.ok_insert _ _ 9 (by kernel_rfl) rfl rfl (by kernel_rfl)) (Lit.ops_cons (Lit.ok_value 42 (by kernel_rfl) rfl (fun W _ => by kernel_rfl)) (Lit.ops_cons (Lit.ok_value 43 (by kernel_rfl) rfl (fun W _ => by kernel_rfl)) (Lit.ops_cons (Lit.ok_insert _ _ 10 (by kernel_rfl) rfl rfl (by kernel_rfl)) (Lit.ops_cons (Lit.ok_value 44 (by kernel_rfl) rfl (fun W _ => by kernel_rfl)) (Lit.ops_cons (Lit.ok_value 45 (by kernel_rfl) rfl (fun W _ => by kernel_rfl)) (Lit.ops_cons (Lit.ok_lk keyed Try.underlying76 46 _ _ (.bool false) .u8 op true (by kernel_rfl) (by kernel_rfl) rfl rfl (by kernel_rfl) (by kernel_rfl) (key op hop hop2) (fun W => by kernel_rfl) (by kernel_rfl) (by kernel_rfl)) (Lit.ops_cons (Lit.ok_value 18 (by kernel_rfl) rfl (fun W _ => by kernel_rfl)) (Lit.ops_cons (Lit.ok_value 47 (by kernel_rfl) rfl (fun W _ => by kernel_rfl)) (Lit.ops_cons (Lit.ok_value 48 (by kernel_rfl) rfl (fun W _ => by kernel_rfl)) (Lit.ops_cons (Lit.ok_value 6 (by kernel_rfl) rfl (fun W _ => by kernel_rfl)) (Lit.ops_cons (Lit.ok_value 7 (by kernel_rfl) rfl (fun W _ => by kernel_rfl)) Lit.ops_nil)))))))))))))))))))))))))))))))))))))))))))) ?_
  intro es clock _
  simp only [Lit.putL, vals, List.foldl_cons, List.foldl_nil, List.setIfInBounds_toArray, List.set_cons_succ, List.set_cons_zero, Exit.then]
  cases hx : Sp.tst c s (bits .and .u32 a b) op with
  | none =>
    simp only [lk_is, hx, Option.map_none, Option.getD_none, Option.isSome_none]
    have HX := Lib.hid hx
    clear hx
    go_wp2
    go_ret2
    refine ⟨?_, ?_⟩
    · rw [← HC.out, ← HS.out, HX.out]; rfl
    · repeat' first | exact Below.refl _ _ | refine Below.drew ?_ | (refine Below.alloc ?_ ?_ _) | (simp; done) | (simp; omega)
  | some r =>
    simp only [lk_is, hx, Option.map_some, Option.getD_some, Option.isSome_some]
    have HX := Lib.hid hx
    clear hx
    go_wp2
    go_ret2
    refine ⟨?_, ?_⟩
    · rw [← HC.out, ← HS.out, HX.out]; rfl
    · repeat' first | exact Below.refl _ _ | refine Below.drew ?_ | (refine Below.alloc ?_ ?_ _) | (simp; done) | (simp; omega)
end Go.Proofs.Ytlhegejfaihgmaa.Tst32
