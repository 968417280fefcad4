/-
  The contract of 'word.alu', 32 bits wide: it tells 'Sp.alu', and writes nothing that was there.
-/
import Derived.Test.YtlhegejfaihgmaaLit
import Derived.Test.YtlhegejfaihgmaaWordSpec
import Derived.Test.YtlhegejfaihgmaaWordKeys
import Derived.WalkLawsBesides
import Derived.WalkSpells
import Derived.Handy
import Derived.Maps.OwnOps
import Derived.Lib.Hide
namespace Go.Proofs.Ytlhegejfaihgmaa.Alu32
open Go.RowKit
set_option linter.unusedVariables false
def vals (p q s mv : Value) : List (Tmp × Value) := [(22, .agg #[.int .u8 0, .int .i16 0]), (23, .func (.func 32) #[] #[p, q]), (24, .agg #[.int .u8 16, .int .i16 0]), (25, .func (.func 33) #[] #[p, q]), (26, .agg #[.int .u8 32, .int .i16 0]), (27, .func (.func 34) #[] #[p, q]), (28, .agg #[.int .u8 48, .int .i16 0]), (29, .func (.func 35) #[] #[p, q]), (30, .agg #[.int .u8 48, .int .i16 1]), (31, .func (.func 37) #[] #[p, q]), (32, .agg #[.int .u8 144, .int .i16 0]), (33, .func (.func 39) #[] #[p, q]), (34, .agg #[.int .u8 144, .int .i16 1]), (35, .func (.func 41) #[] #[p, q]), (36, .agg #[.int .u8 64, .int .i16 0]), (37, .func (.func 43) #[] #[p, q]), (38, .agg #[.int .u8 80, .int .i16 0]), (39, .func (.func 44) #[] #[p, q]), (40, .agg #[.int .u8 160, .int .i16 0]), (41, .func (.func 45) #[] #[p, q]), (42, .agg #[.int .u8 96, .int .i16 0]), (43, .func (.func 46) #[] #[p, s]), (44, .agg #[.int .u8 112, .int .i16 0]), (45, .func (.func 47) #[] #[p, s]), (46, .agg #[.int .u8 192, .int .i16 0]), (47, .func (.func 48) #[] #[p, s]), (48, .agg #[.int .u8 128, .int .i16 0]), (49, .func (.func 49) #[] #[p]), (50, .agg #[.int .u8 176, .int .i16 0]), (51, .func (.func 50) #[] #[q]), (52, .agg #[.int .u8 176, .int .i16 8]), (53, .func (.func 51) #[] #[q]), (54, .agg #[.int .u8 176, .int .i16 16]), (55, .func (.func 52) #[] #[q]), (56, mv), (13, mv)]
def tab (p q s : Value) : List (Nat × Value × Value) := [(3, .agg #[.int .u8 0, .int .i16 0], .func (.func 32) #[] #[p, q]), (6, .agg #[.int .u8 16, .int .i16 0], .func (.func 33) #[] #[p, q]), (9, .agg #[.int .u8 32, .int .i16 0], .func (.func 34) #[] #[p, q]), (12, .agg #[.int .u8 48, .int .i16 0], .func (.func 35) #[] #[p, q]), (15, .agg #[.int .u8 48, .int .i16 1], .func (.func 37) #[] #[p, q]), (18, .agg #[.int .u8 144, .int .i16 0], .func (.func 39) #[] #[p, q]), (21, .agg #[.int .u8 144, .int .i16 1], .func (.func 41) #[] #[p, q]), (24, .agg #[.int .u8 64, .int .i16 0], .func (.func 43) #[] #[p, q]), (27, .agg #[.int .u8 80, .int .i16 0], .func (.func 44) #[] #[p, q]), (30, .agg #[.int .u8 160, .int .i16 0], .func (.func 45) #[] #[p, q]), (33, .agg #[.int .u8 96, .int .i16 0], .func (.func 46) #[] #[p, s]), (36, .agg #[.int .u8 112, .int .i16 0], .func (.func 47) #[] #[p, s]), (39, .agg #[.int .u8 192, .int .i16 0], .func (.func 48) #[] #[p, s]), (42, .agg #[.int .u8 128, .int .i16 0], .func (.func 49) #[] #[p]), (45, .agg #[.int .u8 176, .int .i16 0], .func (.func 50) #[] #[q]), (48, .agg #[.int .u8 176, .int .i16 8], .func (.func 51) #[] #[q]), (51, .agg #[.int .u8 176, .int .i16 16], .func (.func 52) #[] #[q])]
set_option maxRecDepth 100000 in
theorem none_of {p q s : Value} {op off a b : Int} (hn : ∀ (v : Value) (x : Nat), ¬ (x, Value.agg #[Value.int IntKind.u8 op, Value.int IntKind.i16 off], v) ∈ tab p q s) : Sp.alu 4294967296 wrap32 32 op off a b = none := by
  unfold Sp.alu
  rw [if_neg (fun h => hn _ 3 (by rw [h.1, h.2]; exact List.mem_of_getElem? (i := 0) rfl)), if_neg (fun h => hn _ 6 (by rw [h.1, h.2]; exact List.mem_of_getElem? (i := 1) rfl)), if_neg (fun h => hn _ 9 (by rw [h.1, h.2]; exact List.mem_of_getElem? (i := 2) rfl)), if_neg (fun h => hn _ 12 (by rw [h.1, h.2]; exact List.mem_of_getElem? (i := 3) rfl)), if_neg (fun h => hn _ 15 (by rw [h.1, h.2]; exact List.mem_of_getElem? (i := 4) rfl)), if_neg (fun h => hn _ 18 (by rw [h.1, h.2]; exact List.mem_of_getElem? (i := 5) rfl)), if_neg (fun h => hn _ 21 (by rw [h.1, h.2]; exact List.mem_of_getElem? (i := 6) rfl)), if_neg (fun h => hn _ 24 (by rw [h.1, h.2]; exact List.mem_of_getElem? (i := 7) rfl)), if_neg (fun h => hn _ 27 (by rw [h.1, h.2]; exact List.mem_of_getElem? (i := 8) rfl)), if_neg (fun h => hn _ 30 (by rw [h.1, h.2]; exact List.mem_of_getElem? (i := 9) rfl)), if_neg (fun h => hn _ 33 (by rw [h.1, h.2]; exact List.mem_of_getElem? (i := 10) rfl)), if_neg (fun h => hn _ 36 (by rw [h.1, h.2]; exact List.mem_of_getElem? (i := 11) rfl)), if_neg (fun h => hn _ 39 (by rw [h.1, h.2]; exact List.mem_of_getElem? (i := 12) rfl)), if_neg (fun h => hn _ 42 (by rw [h.1, h.2]; exact List.mem_of_getElem? (i := 13) rfl)), if_neg (fun h => hn _ 45 (by rw [h.1, h.2]; exact List.mem_of_getElem? (i := 14) rfl)), if_neg (fun h => hn _ 48 (by rw [h.1, h.2]; exact List.mem_of_getElem? (i := 15) rfl)), if_neg (fun h => hn _ 51 (by rw [h.1, h.2]; exact List.mem_of_getElem? (i := 16) rfl))]
set_option maxRecDepth 100000 in
set_option maxHeartbeats 4000000 in
theorem any (op off a b : Int) (w : World) (hop : 0 ≤ op) (hop2 : op < 256) (hoff : -32768 ≤ off) (hoff2 : off < 32768) (ha : 0 ≤ a) (ha2 : a < 4294967296) (hb : 0 ≤ b) (hb2 : b < 4294967296) :
    Calls Try.prog 15 #[.int .u8 op, .int .i16 off, .int .u32 a, .int .u32 b, .int .i64 32] w fun e w' => e = .returned (Sp.res .u32 (Sp.alu 4294967296 wrap32 32 op off a b)) ∧ Below w.heap.size w w' := by
  go_enter Try.func15, Try.ntmps15
  go_wp2
  refine Lit.region_lit2 WordKeys.mixed WordKeys.keyed Try.underlying65 0 21 (vals (.pointer (some ⟨w.heap.size, 0, none⟩)) (.pointer (some ⟨w.heap.size + 1, 0, none⟩)) (.pointer (some ⟨w.heap.size + 2, 0, none⟩))) (tab (.pointer (some ⟨w.heap.size, 0, none⟩)) (.pointer (some ⟨w.heap.size + 1, 0, none⟩)) (.pointer (some ⟨w.heap.size + 2, 0, none⟩))) (by kernel_rfl) (Lit.ops_cons (Lit.ok_make (by kernel_rfl) rfl rfl) (Lit.ops_cons (Lit.ok_value 22 (by kernel_rfl) rfl (fun W _ => by kernel_rfl)) (Lit.ops_cons (Lit.ok_value 23 (by kernel_rfl) rfl (fun W _ => by kernel_rfl)) (Lit.ops_cons (Lit.ok_insert _ _ 0 (by kernel_rfl) rfl rfl (by kernel_rfl)) (Lit.ops_cons (Lit.ok_value 24 (by kernel_rfl) rfl (fun W _ => by kernel_rfl)) (Lit.ops_cons (Lit.ok_value 25 (by kernel_rfl) rfl (fun W _ => by kernel_rfl)) (Lit.ops_cons (Lit.ok_insert _ _ 1 (by kernel_rfl) rfl rfl (by kernel_rfl)) (Lit.ops_cons (Lit.ok_value 26 (by kernel_rfl) rfl (fun W _ => by kernel_rfl)) (Lit.ops_cons (Lit.ok_value 27 (by kernel_rfl) rfl (fun W _ => by kernel_rfl)) (Lit.ops_cons (Lit.ok_insert _ _ 2 (by kernel_rfl) rfl rfl (by kernel_rfl)) (Lit.ops_cons (Lit.ok_value 28 (by kernel_rfl) rfl (fun W _ => by kernel_rfl)) (Lit.ops_cons (Lit.ok_value 29 (by kernel_rfl) rfl (fun W _ => by kernel_rfl)) (Lit.ops_cons (Lit.ok_insert _ _ 3 (by kernel_rfl) rfl rfl (by kernel_rfl)) (Lit.ops_cons (Lit.ok_value 30 (by kernel_rfl) rfl (fun W _ => by kernel_rfl)) (Lit.ops_cons (Lit.ok_value 31 (by kernel_rfl) rfl (fun W _ => by kernel_rfl)) (Lit.ops_cons (Lit.ok_insert _ _ 4 (by kernel_rfl) rfl rfl (by kernel_rfl)) (Lit.ops_cons (Lit.ok_value 32 (by kernel_rfl) rfl (fun W _ => by kernel_rfl)) (Lit.ops_cons (Lit.ok_value 33 (by kernel_rfl) rfl (fun W _ => by kernel_rfl)) (Lit.ops_cons (Lit.ok_insert _ _ 5 (by kernel_rfl) rfl rfl (by kernel_rfl)) (Lit.ops_cons (Lit.ok_value 34 (by kernel_rfl) rfl (fun W _ => by kernel_rfl)) (Lit.ops_cons (Lit.ok_value 35 (by kernel_rfl) rfl (fun W _ => by kernel_rfl)) (Lit.ops_cons (Lit.ok_insert _ _ 6 (by kernel_rfl) rfl rfl (by kernel_rfl)) (Lit.ops_cons (Lit.ok_value 36 (by kernel_rfl) rfl (fun W _ => by kernel_rfl)) (Lit.ops_cons (Lit.ok_value 37 (by kernel_rfl) rfl (fun W _ => by kernel_rfl)) (Lit.ops_cons (Lit.ok_insert _ _ 7 (by kernel_rfl) rfl rfl (by kernel_rfl)) (Lit.ops_cons (Lit.ok_value 38 (by kernel_rfl) rfl (fun W _ => by kernel_rfl)) (Lit.ops_cons (Lit.ok_value 39 (by kernel_rfl) rfl (fun W _ => by kernel_rfl)) (Lit.ops_cons (Lit.ok_insert _ _ 8 (by kernel_rfl) rfl rfl (by kernel_rfl)) (Lit.ops_cons (Lit.ok_value 40 (by kernel_rfl) rfl (fun W _ => by kernel_rfl)) (Lit.ops_cons (Lit.ok_value 41 (by kernel_rfl) rfl (fun W _ => by kernel_rfl)) (Lit.ops_cons (Lit.ok_insert _ _ 9 (by kernel_rfl) rfl rfl (by kernel_rfl)) (Lit.ops_cons (Lit.ok_value 42 (by kernel_rfl) rfl (fun W _ => by kernel_rfl)) (Lit.ops_cons (Lit.ok_value 43 (by kernel_rfl) rfl (fun W _ => by kernel_rfl)) (Lit.ops_cons (Lit.ok_insert _ _ 10 (by kernel_rfl) rfl rfl (by kernel_rfl)) (Lit.ops_cons (Lit.ok_value 44 (by kernel_rfl) rfl (fun W _ => by kernel_rfl)) (Lit.ops_cons (Lit.ok_value 45 (by kernel_rfl) rfl (fun W _ => by kernel_rfl)) (Lit.ops_cons (Lit.ok_insert _ _ 11 (by kernel_rfl) rfl rfl (by kernel_rfl)) (Lit.ops_cons (Lit.ok_value 46 (by kernel_rfl) rfl (fun W _ => by kernel_rfl)) (Lit.ops_cons (Lit.ok_value 47 (by kernel_rfl) rfl (fun W _ => by kernel_rfl)) (Lit.ops_cons (Lit.ok_insert _ _ 12 (by kernel_rfl) rfl rfl (by kernel_rfl)) (Lit.ops_cons (Lit.ok_value 48 (by kernel_rfl) rfl (fun W _ => by kernel_rfl)) (Lit.ops_cons (Lit.ok_value 49 (by kernel_rfl) rfl (fun W _ => by kernel_rfl)) (Lit.ops_cons (Lit.ok_insert _ _ 13 (by kernel_rfl) rfl rfl (by kernel_rfl)) (Lit.ops_cons (Lit.ok_value 50 (by kernel_rfl) rfl (fun W _ => by kernel_rfl)) (Lit.ops_cons (Lit.ok_value 51 (by kernel_rfl) rfl (fun W _ => by kernel_rfl)) (Lit.ops_cons (Lit.ok_insert _ _ 14 (by kernel_rfl) rfl rfl (by kernel_rfl)) (Lit.ops_cons (Lit.ok_value 52 (by kernel_rfl) rfl (fun W _ => by kernel_rfl)) (Lit.ops_cons (Lit.ok_value 53 (by kernel_rfl) rfl (fun W _ => by kernel_rfl)) (Lit.ops_cons (Lit.ok_insert _ _ 15 (by kernel_rfl) rfl rfl (by kernel_rfl)) (Lit.ops_cons (Lit.ok_value 54 (by kernel_rfl) rfl (fun W _ => by kernel_rfl)) (Lit.ops_cons (Lit.ok_value 55 (by kernel_rfl) rfl (fun W _ => by kernel_rfl)) (Lit.ops_cons (Lit.ok_insert _ _ 16 (by kernel_rfl) rfl rfl (by kernel_rfl)) (Lit.ops_cons (Lit.ok_value 56 (by kernel_rfl) rfl (fun W _ => by kernel_rfl)) (Lit.ops_cons (Lit.ok_value 13 (by kernel_rfl) rfl (fun W _ => by kernel_rfl)) Lit.ops_nil)))))))))))))))))))))))))))))))))))))))))))))))))))))) ?_
  intro es clock hhas
  have HH := Lib.hid hhas
  clear hhas
  simp only [Lit.putL, vals, List.foldl_cons, List.foldl_nil, List.setIfInBounds_toArray, List.set_cons_succ, List.set_cons_zero, Exit.then]
  go_wp2_with (at_lookup; refine Lit.wpList_look _ rfl _ _ 65 true rfl 59 60 WordKeys.keyed Try.underlying65 .nilFunc (by kernel_rfl) _ es clock rfl ?h1 _ HH.out (by kernel_rfl) (.agg #[.int .u8 op, .int .i16 off]) rfl ?h2 ?h3 ?h4)
  case h1 => exact Array.getElem?_push_size
  case h2 => exact WordKeys.key op off hop hop2 hoff hoff2
  case h3 =>
    refine Lib.hid (fun v i hv => ?_)
    simp only [tab, List.mem_cons, List.not_mem_nil, or_false, Prod.mk.injEq] at hv
    rcases hv with h | h | h | h | h | h | h | h | h | h | h | h | h | h | h | h | h
    all_goals
      obtain ⟨_, hk, rfl⟩ := h
      simp at hk
      obtain ⟨rfl, rfl⟩ := hk
      clear HH
      go_wp2
      all_goals first | (exfalso; simp_all; done) | skip
      all_goals
        go_ret2
        refine ⟨?_, ?_⟩
        · simp only [Array.getD_eq_getD_getElem?, List.getElem?_toArray, List.getElem?_cons_succ, List.getElem?_cons_zero, Option.getD_some]
          first | rfl | exact Sp.div_zero ‹_› | exact Sp.mod_zero ‹_› | exact Sp.sdiv_zero Sp.w32 ‹_› | exact Sp.sdiv_zero Sp.w64 ‹_› | exact Sp.smod_zero ‹_› | exact Sp.div_u64' ha ha2 hb
        · repeat' first | exact Below.refl _ _ | refine Below.drew ?_ | (refine Below.alloc ?_ ?_ _) | (simp; done) | (simp; omega)
  case h4 =>
    refine Lib.hid (fun hn => ?_)
    clear HH
    have HN := Lib.hid hn
    clear hn
    go_wp2
    go_ret2
    refine ⟨?_, ?_⟩
    · rw [none_of HN.out]; rfl
    · repeat' first | exact Below.refl _ _ | refine Below.drew ?_ | (refine Below.alloc ?_ ?_ _) | (simp; done) | (simp; omega)
end Go.Proofs.Ytlhegejfaihgmaa.Alu32
