/-
  The contract of 'word.Extend': it tells 'Sp.extend', and writes nothing that was there.
-/
import Derived.Test.YtlhegejfaihgmaaLit
import Derived.Test.YtlhegejfaihgmaaWordSpecB
import Derived.Test.YtlhegejfaihgmaaWordKeys
import Derived.WalkLawsBesides
import Derived.WalkSpells
import Derived.Handy
import Derived.Lib.Hide
import Derived.Deep.CutBlock
namespace Go.Proofs.Ytlhegejfaihgmaa.Ext
open Go.RowKit
set_option linter.unusedVariables false
theorem keyed : Go.Maps.Keyed Try.prog 3 := Go.Maps.int_keyed Try.underlying3
theorem key (n : Int) (h1 : -9223372036854775808 ≤ n) (h2 : n ≤ 9223372036854775807) : (keyOf Try.prog 3 (.int .i64 n)).isSome = true := by
  rw [Go.Maps.keyOf_int_mk Try.underlying3 (WalkArith.wf_i64 (by omega))]
  rfl
def tab (n : Int) : List (Nat × Value × Value) := [(4, .int .i64 1, .int .u64 (IntKind.u64.wrap (IntKind.u8.wrap n))), (8, .int .i64 2, .int .u64 (IntKind.u64.wrap (IntKind.u16.wrap n))), (12, .int .i64 4, .int .u64 (IntKind.u64.wrap (IntKind.u32.wrap n))), (14, .int .i64 8, (.int .u64 n))]
def vals (n bytes : Int) (mv : Value) : List (Tmp × Value) := [(12, (.int .u64 n)), (13, .int .u8 (IntKind.u8.wrap n)), (14, .int .u64 (IntKind.u64.wrap (IntKind.u8.wrap n))), (15, (.int .u64 n)), (16, .int .u16 (IntKind.u16.wrap n)), (17, .int .u64 (IntKind.u64.wrap (IntKind.u16.wrap n))), (18, (.int .u64 n)), (19, .int .u32 (IntKind.u32.wrap n)), (20, .int .u64 (IntKind.u64.wrap (IntKind.u32.wrap n))), (21, (.int .u64 n)), (22, mv), (23, (.int .i64 bytes)), (24, .tuple #[((Lit.lk (List.map (fun p => p.2) (tab n)) (.int .i64 bytes)).getD (.int .u64 0)), (.bool (Lit.lk (List.map (fun p => p.2) (tab n)) (.int .i64 bytes)).isSome)]), (10, .tuple #[((Lit.lk (List.map (fun p => p.2) (tab n)) (.int .i64 bytes)).getD (.int .u64 0)), (.bool (Lit.lk (List.map (fun p => p.2) (tab n)) (.int .i64 bytes)).isSome)]), (25, ((Lit.lk (List.map (fun p => p.2) (tab n)) (.int .i64 bytes)).getD (.int .u64 0))), (26, (.bool (Lit.lk (List.map (fun p => p.2) (tab n)) (.int .i64 bytes)).isSome)), (8, ((Lit.lk (List.map (fun p => p.2) (tab n)) (.int .i64 bytes)).getD (.int .u64 0))), (9, (.bool (Lit.lk (List.map (fun p => p.2) (tab n)) (.int .i64 bytes)).isSome))]
theorem lk_yes (n bytes : Int) (r : Int) (h : Sp.ext n bytes = some r) : Lit.lk (List.map (fun p => p.2) (tab n)) (.int .i64 bytes) = some (.int .u64 r) := by
  unfold Sp.ext at h
  by_cases h1 : bytes = 1
  · subst h1; simp at h; subst h
    show some (Value.int .u64 (IntKind.u64.wrap (IntKind.u8.wrap n))) = _
    rw [IntKind.wrap_u64, IntKind.wrap_u8, Int.emod_eq_of_lt (by omega) (by omega)]
  by_cases h2 : bytes = 2
  · subst h2; simp at h; subst h
    show some (Value.int .u64 (IntKind.u64.wrap (IntKind.u16.wrap n))) = _
    rw [IntKind.wrap_u64, IntKind.wrap_u16, Int.emod_eq_of_lt (by omega) (by omega)]
  by_cases h4 : bytes = 4
  · subst h4; simp at h; subst h
    show some (Value.int .u64 (IntKind.u64.wrap (IntKind.u32.wrap n))) = _
    rw [IntKind.wrap_u64, IntKind.wrap_u32, Int.emod_eq_of_lt (by omega) (by omega)]
  by_cases h8 : bytes = 8
  · subst h8; simp at h; subst h; rfl
  simp [h1, h2, h4, h8] at h
theorem lk_no (n bytes : Int) (h : Sp.ext n bytes = none) : Lit.lk (List.map (fun p => p.2) (tab n)) (.int .i64 bytes) = none := by
  unfold Sp.ext at h
  by_cases h1 : bytes = 1
  · simp [h1] at h
  by_cases h2 : bytes = 2
  · simp [h2] at h
  by_cases h4 : bytes = 4
  · simp [h4] at h
  by_cases h8 : bytes = 8
  · simp [h8] at h
  simp [Lit.lk, tab, Lit.code, Ne.symm h1, Ne.symm h2, Ne.symm h4, Ne.symm h8]
set_option maxRecDepth 100000 in
set_option maxHeartbeats 4000000 in
theorem any (n bytes : Int) (signed : Bool) (w : World) (hn : 0 ≤ n) (hn2 : n < 18446744073709551616) (hk : Hid ((keyOf Try.prog 3 (.int .i64 bytes)).isSome = true)) :
    Calls Try.prog 13 #[.int .u64 n, .int .i64 bytes, .bool signed] w fun e w' => e = .returned (Sp.res .u64 (Sp.extend n bytes signed)) ∧ Below w.heap.size w w' := by
  go_enter Try.func13, Try.ntmps13
  go_upto_region 1 with (fail)
  refine Lit.region_lit3 keyed Try.underlying57 0 11 (vals n bytes) (tab n) (by kernel_rfl) (Lit.ops_cons (Lit.ok_make (by kernel_rfl) rfl rfl) (Lit.ops_cons (Lit.ok_value 12 (by kernel_rfl) rfl (fun W _ => by kernel_rfl)) (Lit.ops_cons (Lit.ok_value 13 (by kernel_rfl) rfl (fun W _ => by kernel_rfl)) (Lit.ops_cons (Lit.ok_value 14 (by kernel_rfl) rfl (fun W _ => by kernel_rfl)) (Lit.ops_cons (Lit.ok_insert _ _ 0 (by kernel_rfl) rfl rfl (by kernel_rfl)) (Lit.ops_cons (Lit.ok_value 15 (by kernel_rfl) rfl (fun W _ => by kernel_rfl)) (Lit.ops_cons (Lit.ok_value 16 (by kernel_rfl) rfl (fun W _ => by kernel_rfl)) (Lit.ops_cons (Lit.ok_value 17 (by kernel_rfl) rfl (fun W _ => by kernel_rfl)) (Lit.ops_cons (Lit.ok_insert _ _ 1 (by kernel_rfl) rfl rfl (by kernel_rfl)) (Lit.ops_cons (Lit.ok_value 18 (by kernel_rfl) rfl (fun W _ => by kernel_rfl)) (Lit.ops_cons (Lit.ok_value 19 (by kernel_rfl) rfl (fun W _ => by kernel_rfl)) (Lit.ops_cons (Lit.ok_value 20 (by kernel_rfl) rfl (fun W _ => by kernel_rfl)) (Lit.ops_cons (Lit.ok_insert _ _ 2 (by kernel_rfl) rfl rfl (by kernel_rfl)) (Lit.ops_cons (Lit.ok_value 21 (by kernel_rfl) rfl (fun W _ => by kernel_rfl)) (Lit.ops_cons (Lit.ok_insert _ _ 3 (by kernel_rfl) rfl rfl (by kernel_rfl)) (Lit.ops_cons (Lit.ok_value 22 (by kernel_rfl) rfl (fun W _ => by kernel_rfl)) (Lit.ops_cons (Lit.ok_value 23 (by kernel_rfl) rfl (fun W _ => by kernel_rfl)) (Lit.ops_cons (Lit.ok_lk keyed Try.underlying57 24 _ _ (.int .u64 0) .i64 bytes true (by kernel_rfl) (by kernel_rfl) rfl rfl (by kernel_rfl) (by kernel_rfl) hk (fun W => by kernel_rfl) (by kernel_rfl) (by kernel_rfl)) (Lit.ops_cons (Lit.ok_value 10 (by kernel_rfl) rfl (fun W _ => by kernel_rfl)) (Lit.ops_cons (Lit.ok_value 25 (by kernel_rfl) rfl (fun W _ => by kernel_rfl)) (Lit.ops_cons (Lit.ok_value 26 (by kernel_rfl) rfl (fun W _ => by kernel_rfl)) (Lit.ops_cons (Lit.ok_value 8 (by kernel_rfl) rfl (fun W _ => by kernel_rfl)) (Lit.ops_cons (Lit.ok_value 9 (by kernel_rfl) rfl (fun W _ => by kernel_rfl)) Lit.ops_nil))))))))))))))))))))))) ?_
  intro es clock _
  simp only [Lit.putL, vals, List.foldl_cons, List.foldl_nil, List.setIfInBounds_toArray, List.set_cons_succ, List.set_cons_zero, Exit.then]
  cases hx : Sp.ext n bytes with
  | none =>
    simp only [lk_no n bytes hx, Option.getD_none, Option.isSome_none]
    have HX := Lib.hid hx
    clear hx
    go_wp2
    go_ret2
    refine ⟨?_, ?_⟩
    · unfold Sp.extend; rw [HX.out]; rfl
    · repeat' first | exact Below.refl _ _ | refine Below.drew ?_ | (refine Below.alloc ?_ ?_ _) | (simp; done) | (simp; omega)
  | some r =>
    simp only [lk_yes n bytes r hx, Option.getD_some, Option.isSome_some]
    have hr := Sp.ext_bounds hn hn2 hx
    have hb := Sp.ext_bytes hx
    obtain ⟨hr1, hr2⟩ := hr
    obtain ⟨hb1, hb2⟩ := hb
    have HX := Lib.hid hx
    clear hx
    cases signed
    all_goals
      go_wp2
      go_ret2
      refine ⟨?_, ?_⟩
      · unfold Sp.extend; rw [HX.out]
        first | rfl | skip
      · repeat' first | exact Below.refl _ _ | refine Below.drew ?_ | (refine Below.alloc ?_ ?_ _) | (simp; done) | (simp; omega)
end Go.Proofs.Ytlhegejfaihgmaa.Ext
