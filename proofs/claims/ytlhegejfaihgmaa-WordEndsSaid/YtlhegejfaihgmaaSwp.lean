/-
  The contract of 'word.Swap': it tells 'Sp.swap', and writes nothing that was there.
-/
import Derived.Test.YtlhegejfaihgmaaLitB
import Derived.Test.YtlhegejfaihgmaaBits
import Derived.Test.YtlhegejfaihgmaaWordSpecC
import Derived.Test.YtlhegejfaihgmaaWordKeys
import Derived.WalkLawsBesides
import Derived.WalkSpells
import Derived.Handy
import Derived.Lib.Hide
import Derived.Deep.CutBlock
import Derived.Maps.OwnOps
import Derived.Deep.QuietTactic
import Derived.BigQuiet
import Derived.Deep.Draws
namespace Go.Proofs.Ytlhegejfaihgmaa.Swp
open Go.RowKit
set_option linter.unusedVariables false
theorem ret_int {k : IntKind} {a b : Int} (h : a = b) : Ending.returned (.int k a) = .returned (.int k b) := by rw [h]
theorem r16 (x : Int) (w : World) (h0 : 0 ≤ x) (h1 : x < 65536) : Calls Try.prog 18 #[.int .u16 x] w fun e w' => e = .returned (.int .u16 (Sp.rev16 x)) ∧ w = w' := by
  go_enter Try.func18, Try.ntmps18
  go_wp2
  go_ret
  simp only [Array.getD_eq_getD_getElem?, List.getElem?_toArray, List.getElem?_cons_succ, List.getElem?_cons_zero, Option.getD_some]
  exact ⟨ret_int (Sp.rev16_is x h0 h1), trivial⟩
theorem r32 (x : Int) (w : World) (h0 : 0 ≤ x) (h1 : x < 4294967296) : Calls Try.prog 20 #[.int .u32 x] w fun e w' => e = .returned (.int .u32 (Sp.rev32 x)) ∧ w = w' := by
  go_enter Try.func20, Try.ntmps20
  go_wp2
  go_ret
  simp only [Array.getD_eq_getD_getElem?, List.getElem?_toArray, List.getElem?_cons_succ, List.getElem?_cons_zero, Option.getD_some]
  exact ⟨ret_int (Sp.rev32_is x h0 h1), trivial⟩
theorem r64 (x : Int) (w : World) (h0 : 0 ≤ x) (h1 : x < 18446744073709551616) : Calls Try.prog 22 #[.int .u64 x] w fun e w' => e = .returned (.int .u64 (Sp.rev64 x)) ∧ w = w' := by
  go_enter Try.func22, Try.ntmps22
  go_wp2
  go_ret
  simp only [Array.getD_eq_getD_getElem?, List.getElem?_toArray, List.getElem?_cons_succ, List.getElem?_cons_zero, Option.getD_some]
  exact ⟨ret_int (Sp.rev64_is x h0 h1 _ _ rfl rfl), trivial⟩
theorem c16 (n : Int) (w : World) (p : Addr) (h0 : 0 ≤ n) (h1 : n < 18446744073709551616) (hc : w.cell? p = some (.int .u64 n)) :
    Calls Try.prog 17 #[.pointer (some p)] w fun e w' => e = .returned (.tuple #[.int .u64 (n % 65536), .int .u64 (Sp.rev16 (n % 65536))]) ∧ ∃ k, w' = w.drewN k := by
  have hb := Sp.rev16_bounds (n % 65536) (by omega) (by omega)
  have hw : IntKind.u16.wrap n = n % 65536 := IntKind.wrap_u16 n
  go_enter Try.func17, Try.ntmps17
  go_wp2_with fail
  go_quiet ((go_at_call 18; exact Calls.quiet_of_same ((r16 _ _ (by omega) (by omega)).mono fun _ _ h => ⟨h.1, h.2.symm⟩)))
  go_wp2_with fail
  go_ret2
  simp only [Array.getD_eq_getD_getElem?, List.getElem?_toArray, List.getElem?_cons_succ, List.getElem?_cons_zero, Option.getD_some]
  exact ⟨trivial, _, rfl⟩
theorem c32 (n : Int) (w : World) (p : Addr) (h0 : 0 ≤ n) (h1 : n < 18446744073709551616) (hc : w.cell? p = some (.int .u64 n)) :
    Calls Try.prog 19 #[.pointer (some p)] w fun e w' => e = .returned (.tuple #[.int .u64 (n % 4294967296), .int .u64 (Sp.rev32 (n % 4294967296))]) ∧ ∃ k, w' = w.drewN k := by
  have hb := Sp.rev32_bounds (n % 4294967296) (by omega) (by omega)
  go_enter Try.func19, Try.ntmps19
  go_wp2_with fail
  go_quiet ((go_at_call 20; exact Calls.quiet_of_same ((r32 _ _ (by omega) (by omega)).mono fun _ _ h => ⟨h.1, h.2.symm⟩)))
  go_wp2_with fail
  go_ret2
  simp only [Array.getD_eq_getD_getElem?, List.getElem?_toArray, List.getElem?_cons_succ, List.getElem?_cons_zero, Option.getD_some]
  exact ⟨trivial, _, rfl⟩
theorem c64 (n : Int) (w : World) (p : Addr) (h0 : 0 ≤ n) (h1 : n < 18446744073709551616) (hc : w.cell? p = some (.int .u64 n)) :
    Calls Try.prog 21 #[.pointer (some p)] w fun e w' => e = .returned (.tuple #[.int .u64 n, .int .u64 (Sp.rev64 n)]) ∧ ∃ k, w' = w.drewN k := by
  go_enter Try.func21, Try.ntmps21
  go_wp2_with fail
  go_quiet ((go_at_call 22; exact Calls.quiet_of_same ((r64 _ _ h0 h1).mono fun _ _ h => ⟨h.1, h.2.symm⟩)))
  go_wp2_with fail
  go_ret2
  simp only [Array.getD_eq_getD_getElem?, List.getElem?_toArray, List.getElem?_cons_succ, List.getElem?_cons_zero, Option.getD_some]
  exact ⟨trivial, _, rfl⟩
theorem keyed : Go.Maps.Keyed Try.prog 3 := Go.Maps.int_keyed Try.underlying3
theorem key (n : Int) (h1 : -9223372036854775808 ≤ n) (h2 : n ≤ 9223372036854775807) : (keyOf Try.prog 3 (.int .i64 n)).isSome = true := by
  rw [Go.Maps.keyOf_int_mk Try.underlying3 (WalkArith.wf_i64 (by omega))]
  rfl
def tab (p : Value) : List (Nat × Value × Value) := [(2, .int .i64 16, .func (.func 17) #[] #[p]), (4, .int .i64 32, .func (.func 19) #[] #[p]), (6, .int .i64 64, .func (.func 21) #[] #[p])]
def vals (p mv : Value) : List (Tmp × Value) := [(20, .func (.func 17) #[] #[p]), (21, .func (.func 19) #[] #[p]), (22, .func (.func 21) #[] #[p]), (23, mv), (8, mv)]
theorem lk_none (p : Value) (width : Int) (h1 : (width == 16) = false) (h2 : (width == 32) = false) (h3 : (width == 64) = false) : Lit.lk (List.map (fun p => p.2) (tab p)) (.int .i64 width) = none := by
  simp only [beq_eq_false_iff_ne] at h1 h2 h3
  simp [Lit.lk, tab, Lit.code, Ne.symm h1, Ne.symm h2, Ne.symm h3]
set_option maxRecDepth 100000 in
set_option maxHeartbeats 4000000 in
theorem any (order width n : Int) (w : World) (hn : 0 ≤ n) (hn2 : n < 18446744073709551616) (hk : Hid ((keyOf Try.prog 3 (.int .i64 width)).isSome = true)) :
    Calls Try.prog 8 #[.int .i64 order, .int .i64 width, .int .u64 n] w fun e w' => e = .returned (Sp.res .u64 (Sp.swap order width n)) ∧ Below w.heap.size w w' := by
  by_cases ho : 0 ≤ order ∧ order ≤ 2
  · obtain ⟨ho1, ho2⟩ := ho
    have HO : Hid (0 ≤ order ∧ order ≤ 2) := ⟨ho1, ho2⟩
    go_enter Try.func8, Try.ntmps8
    go_upto_region 3 with (fail)
    refine Lit.region_lit3 keyed Try.underlying45 0 19 (vals (.pointer (some ⟨w.heap.size, 0, none⟩))) (tab (.pointer (some ⟨w.heap.size, 0, none⟩))) (by kernel_rfl) (Lit.ops_cons (Lit.ok_make (by kernel_rfl) rfl rfl) (Lit.ops_cons (Lit.ok_value 20 (by kernel_rfl) rfl (fun W _ => by kernel_rfl)) (Lit.ops_cons (Lit.ok_insert _ _ 0 (by kernel_rfl) rfl rfl (by kernel_rfl)) (Lit.ops_cons (Lit.ok_value 21 (by kernel_rfl) rfl (fun W _ => by kernel_rfl)) (Lit.ops_cons (Lit.ok_insert _ _ 1 (by kernel_rfl) rfl rfl (by kernel_rfl)) (Lit.ops_cons (Lit.ok_value 22 (by kernel_rfl) rfl (fun W _ => by kernel_rfl)) (Lit.ops_cons (Lit.ok_insert _ _ 2 (by kernel_rfl) rfl rfl (by kernel_rfl)) (Lit.ops_cons (Lit.ok_value 23 (by kernel_rfl) rfl (fun W _ => by kernel_rfl)) (Lit.ops_cons (Lit.ok_value 8 (by kernel_rfl) rfl (fun W _ => by kernel_rfl)) Lit.ops_nil))))))))) ?_
    intro es clock hhas
    have HH := Lib.hid hhas
    clear hhas
    simp only [Lit.putL, vals, List.foldl_cons, List.foldl_nil, List.setIfInBounds_toArray, List.set_cons_succ, List.set_cons_zero, Exit.then]
    by_cases h16 : width = 16
    · subst h16
      have e : Lit.lk (List.map (fun p => p.2) (tab (.pointer (some ⟨w.heap.size, 0, none⟩)))) (.int .i64 16) = some (.func (.func 17) #[] #[.pointer (some ⟨w.heap.size, 0, none⟩)]) := rfl
      have E := Lib.hid e
      clear e
      go_wp2_with (first | (at_lookup; refine Lit.wpList_lk _ rfl _ _ 45 true rfl 3 42 keyed Try.underlying45 .nilFunc (by kernel_rfl) _ es clock rfl Array.getElem?_push_size _ HH.out .i64 16 (by kernel_rfl) rfl hk.out ?_; rw [E.out]; simp only [Option.getD_some, Option.isSome_some, ↓reduceIte]) | (go_at_call 17; refine (c16 n _ _ hn hn2 (by go_cell)).mono ?_; rintro e w' ⟨rfl, k, rfl⟩) | go_in)
      all_goals
        go_ret2
        refine ⟨?_, ?_⟩
        · simp only [Array.getD_eq_getD_getElem?, List.getElem?_toArray, List.getElem?_cons_succ, List.getElem?_cons_zero, Option.getD_some]
          refine Sp.swap16 HO.out hn hn2 ?_
          first | exact .inl ⟨by simpa using ‹(order == 0) = true›, rfl⟩ | exact .inr ⟨by simpa using ‹(order == 0) = false›, rfl⟩
        · repeat' first | exact Below.refl _ _ | refine Below.drew ?_ | refine below_drewN ?_ _ | (refine Below.alloc ?_ ?_ _) | (simp; done) | (simp; omega)
    by_cases h32 : width = 32
    · subst h32
      have e : Lit.lk (List.map (fun p => p.2) (tab (.pointer (some ⟨w.heap.size, 0, none⟩)))) (.int .i64 32) = some (.func (.func 19) #[] #[.pointer (some ⟨w.heap.size, 0, none⟩)]) := rfl
      have E := Lib.hid e
      clear e
      go_wp2_with (first | (at_lookup; refine Lit.wpList_lk _ rfl _ _ 45 true rfl 3 42 keyed Try.underlying45 .nilFunc (by kernel_rfl) _ es clock rfl Array.getElem?_push_size _ HH.out .i64 32 (by kernel_rfl) rfl hk.out ?_; rw [E.out]; simp only [Option.getD_some, Option.isSome_some, ↓reduceIte]) | (go_at_call 19; refine (c32 n _ _ hn hn2 (by go_cell)).mono ?_; rintro e w' ⟨rfl, k, rfl⟩) | go_in)
      all_goals
        go_ret2
        refine ⟨?_, ?_⟩
        · simp only [Array.getD_eq_getD_getElem?, List.getElem?_toArray, List.getElem?_cons_succ, List.getElem?_cons_zero, Option.getD_some]
          refine Sp.swap32 HO.out hn hn2 ?_
          first | exact .inl ⟨by simpa using ‹(order == 0) = true›, rfl⟩ | exact .inr ⟨by simpa using ‹(order == 0) = false›, rfl⟩
        · repeat' first | exact Below.refl _ _ | refine Below.drew ?_ | refine below_drewN ?_ _ | (refine Below.alloc ?_ ?_ _) | (simp; done) | (simp; omega)
    by_cases h64 : width = 64
    · subst h64
      have e : Lit.lk (List.map (fun p => p.2) (tab (.pointer (some ⟨w.heap.size, 0, none⟩)))) (.int .i64 64) = some (.func (.func 21) #[] #[.pointer (some ⟨w.heap.size, 0, none⟩)]) := rfl
      have E := Lib.hid e
      clear e
      go_wp2_with (first | (at_lookup; refine Lit.wpList_lk _ rfl _ _ 45 true rfl 3 42 keyed Try.underlying45 .nilFunc (by kernel_rfl) _ es clock rfl Array.getElem?_push_size _ HH.out .i64 64 (by kernel_rfl) rfl hk.out ?_; rw [E.out]; simp only [Option.getD_some, Option.isSome_some, ↓reduceIte]) | (go_at_call 21; refine (c64 n _ _ hn hn2 (by go_cell)).mono ?_; rintro e w' ⟨rfl, k, rfl⟩) | go_in)
      all_goals
        go_ret2
        refine ⟨?_, ?_⟩
        · simp only [Array.getD_eq_getD_getElem?, List.getElem?_toArray, List.getElem?_cons_succ, List.getElem?_cons_zero, Option.getD_some]
          refine Sp.swap64 HO.out hn hn2 ?_
          first | exact .inl ⟨by simpa using ‹(order == 0) = true›, rfl⟩ | exact .inr ⟨by simpa using ‹(order == 0) = false›, rfl⟩
        · repeat' first | exact Below.refl _ _ | refine Below.drew ?_ | refine below_drewN ?_ _ | (refine Below.alloc ?_ ?_ _) | (simp; done) | (simp; omega)
    have h1 : (width == 16) = false := by simpa using h16
    have h2 : (width == 32) = false := by simpa using h32
    have h3 : (width == 64) = false := by simpa using h64
    have e := lk_none (.pointer (some ⟨w.heap.size, 0, none⟩)) width h1 h2 h3
    have E := Lib.hid e
    have H1 := Lib.hid h16
    have H2 := Lib.hid h32
    have H3 := Lib.hid h64
    clear e h1 h2 h3 h16 h32 h64
    go_wp2_with (first | (at_lookup; refine Lit.wpList_lk _ rfl _ _ 45 true rfl 3 42 keyed Try.underlying45 .nilFunc (by kernel_rfl) _ es clock rfl Array.getElem?_push_size _ HH.out .i64 width (by kernel_rfl) rfl hk.out ?_; rw [E.out]; simp only [Option.getD_none, Option.isSome_none, ↓reduceIte]) | go_in)
    all_goals
      go_ret2
      refine ⟨?_, ?_⟩
      · rw [Sp.swap_none (.inr ⟨H1.out, H2.out, H3.out⟩)]; rfl
      · repeat' first | exact Below.refl _ _ | refine Below.drew ?_ | refine below_drewN ?_ _ | (refine Below.alloc ?_ ?_ _) | (simp; done) | (simp; omega)
  · have HO := Lib.hid ho
    by_cases hneg : order < 0
    all_goals
      go_enter Try.func8, Try.ntmps8
      go_wp2
      all_goals first | (exfalso; have := HO.out; omega) | skip
      all_goals
        go_ret2
        refine ⟨?_, ?_⟩
        · rw [Sp.swap_none (.inl HO.out)]; rfl
        · repeat' first | exact Below.refl _ _ | refine Below.drew ?_ | refine below_drewN ?_ _ | (refine Below.alloc ?_ ?_ _) | (simp; done) | (simp; omega)
end Go.Proofs.Ytlhegejfaihgmaa.Swp
