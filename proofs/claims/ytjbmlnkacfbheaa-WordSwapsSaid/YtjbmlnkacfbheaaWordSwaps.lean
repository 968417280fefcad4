/-
  'WordSwaps' tells true, of any word: the walk.
-/
import Derived.Test.YtjbmlnkacfbheaaWordTopB
import Derived.Test.YtjbmlnkacfbheaaWordSwapsSp
import Derived.RegionTactic
import Derived.BigRegion
import Derived.ChangeAlike
namespace Go.Proofs.Ytjbmlnkacfbheaa.SwapsW
open Go.RowKit
set_option linter.unusedVariables false
theorem key (n : Int) (h1 : -9223372036854775808 ≤ n) (h2 : n ≤ 9223372036854775807) : Hid ((keyOf Try.prog 3 (.int .i64 n)).isSome = true) := Swp.key n h1 h2
theorem w64_of {x : Int} (h : (Lit.int .u64 x).wf = true) : Sp.W64 x := by
  simp only [Lit.wf, Bool.and_eq_true, decide_eq_true_eq] at h
  have h1 : IntKind.u64.min = 0 := rfl
  have h2 : IntKind.u64.max = 18446744073709551615 := rfl
  exact ⟨by omega, by omega⟩
theorem _root_.Go.Proofs.Ytjbmlnkacfbheaa.Sp.Ok.trans' {a b c : World} (k : Sp.Ok b c) (h : Sp.Ok a b) : Sp.Ok a c := h.trans k
set_option maxRecDepth 100000 in
set_option maxHeartbeats 4000000 in
theorem w16f (n which : Int) (w : World) (hn : Sp.W64 n) (hm : IntKind.u64.wrap which % 3 = 0) :
    Calls Try.prog 6 #[.int .u64 n, .int .i64 which, .bool false] w fun e w' => e = .returned (.bool true) ∧ Sp.Ok w w' := by
  have hwr : 0 ≤ IntKind.u64.wrap which := by rw [IntKind.wrap_u64]; omega
  have KB := key 16 (by decide) (by decide)
  have KY := key 2 (by decide) (by decide)
  obtain ⟨x, F⟩ := Sp.facts16 n false hn
  obtain rfl := F.s rfl
  go_enter Try.func6, Try.ntmps6
  go_wp2_with (go_at_call 9; refine (Top.awake _).mono ?_; rintro e w1 ⟨rfl, hk1⟩)
  go_region
  all_goals
    go_wp2_with fail
    refine (Swp.any _ _ _ _ hn.1 hn.2 KB).mono ?_
    rintro e w2 ⟨rfl, hk⟩
    have hk2 : Sp.Ok _ w2 := hk
    clear hk
    rw [F.a]; simp only [Sp.res]
    go_wp2_with fail
    refine (Swp.any _ _ _ _ hn.1 hn.2 KB).mono ?_
    rintro e w3 ⟨rfl, hk⟩
    have hk3 : Sp.Ok _ w3 := hk
    clear hk
    rw [F.b]; simp only [Sp.res]
    go_wp2_with fail
    refine (Swp.any _ _ _ _ F.wbig.1 F.wbig.2 KB).mono ?_
    rintro e w4 ⟨rfl, hk⟩
    have hk4 : Sp.Ok _ w4 := hk
    clear hk
    rw [F.c]; simp only [Sp.res]
    go_wp2_with fail
    refine (Ext.any _ _ _ _ hn.1 hn.2 KY).mono ?_
    rintro e w5 ⟨rfl, hk⟩
    have hk5 : Sp.Ok _ w5 := hk
    clear hk
    rw [F.d]; simp only [Sp.res]
    go_wp2_with fail
    refine (Ext.any _ _ _ _ F.wx.1 F.wx.2 KY).mono ?_
    rintro e w6 ⟨rfl, hk⟩
    have hk6 : Sp.Ok _ w6 := hk
    clear hk
    rw [F.e]; simp only [Sp.res]
    go_wp2_with fail
    go_ret
    refine ⟨by simp, ?_⟩
    refine hk6.trans' (hk5.trans' (hk4.trans' (hk3.trans' (hk2.trans' ?_))))
    repeat (first | exact hk1 | refine Sp.Ok.drew ?_ | refine Sp.Ok.alloc ?_ _)
set_option maxRecDepth 100000 in
set_option maxHeartbeats 4000000 in
theorem w16t (n which : Int) (w : World) (hn : Sp.W64 n) (hm : IntKind.u64.wrap which % 3 = 0) :
    Calls Try.prog 6 #[.int .u64 n, .int .i64 which, .bool true] w fun e w' => e = .returned (.bool true) ∧ Sp.Ok w w' := by
  have hwr : 0 ≤ IntKind.u64.wrap which := by rw [IntKind.wrap_u64]; omega
  have KB := key 16 (by decide) (by decide)
  have KY := key 2 (by decide) (by decide)
  obtain ⟨x, F⟩ := Sp.facts16 n true hn
  have _tok := True.intro
  go_enter Try.func6, Try.ntmps6
  go_wp2_with (go_at_call 9; refine (Top.awake _).mono ?_; rintro e w1 ⟨rfl, hk1⟩)
  go_region
  all_goals
    go_wp2_with fail
    refine (Swp.any _ _ _ _ hn.1 hn.2 KB).mono ?_
    rintro e w2 ⟨rfl, hk⟩
    have hk2 : Sp.Ok _ w2 := hk
    clear hk
    rw [F.a]; simp only [Sp.res]
    go_wp2_with fail
    refine (Swp.any _ _ _ _ hn.1 hn.2 KB).mono ?_
    rintro e w3 ⟨rfl, hk⟩
    have hk3 : Sp.Ok _ w3 := hk
    clear hk
    rw [F.b]; simp only [Sp.res]
    go_wp2_with fail
    refine (Swp.any _ _ _ _ F.wbig.1 F.wbig.2 KB).mono ?_
    rintro e w4 ⟨rfl, hk⟩
    have hk4 : Sp.Ok _ w4 := hk
    clear hk
    rw [F.c]; simp only [Sp.res]
    go_wp2_with fail
    refine (Ext.any _ _ _ _ hn.1 hn.2 KY).mono ?_
    rintro e w5 ⟨rfl, hk⟩
    have hk5 : Sp.Ok _ w5 := hk
    clear hk
    rw [F.d]; simp only [Sp.res]
    go_wp2_with fail
    refine (Ext.any _ _ _ _ F.wx.1 F.wx.2 KY).mono ?_
    rintro e w6 ⟨rfl, hk⟩
    have hk6 : Sp.Ok _ w6 := hk
    clear hk
    rw [F.e]; simp only [Sp.res]
    go_wp2_with fail
    go_ret
    refine ⟨by simp, ?_⟩
    refine hk6.trans' (hk5.trans' (hk4.trans' (hk3.trans' (hk2.trans' ?_))))
    repeat (first | exact hk1 | refine Sp.Ok.drew ?_ | refine Sp.Ok.alloc ?_ _)
set_option maxRecDepth 100000 in
set_option maxHeartbeats 4000000 in
theorem w32f (n which : Int) (w : World) (hn : Sp.W64 n) (hm : IntKind.u64.wrap which % 3 = 1) :
    Calls Try.prog 6 #[.int .u64 n, .int .i64 which, .bool false] w fun e w' => e = .returned (.bool true) ∧ Sp.Ok w w' := by
  have hwr : 0 ≤ IntKind.u64.wrap which := by rw [IntKind.wrap_u64]; omega
  have KB := key 32 (by decide) (by decide)
  have KY := key 4 (by decide) (by decide)
  obtain ⟨x, F⟩ := Sp.facts32 n false hn
  obtain rfl := F.s rfl
  go_enter Try.func6, Try.ntmps6
  go_wp2_with (go_at_call 9; refine (Top.awake _).mono ?_; rintro e w1 ⟨rfl, hk1⟩)
  go_region
  all_goals
    go_wp2_with fail
    refine (Swp.any _ _ _ _ hn.1 hn.2 KB).mono ?_
    rintro e w2 ⟨rfl, hk⟩
    have hk2 : Sp.Ok _ w2 := hk
    clear hk
    rw [F.a]; simp only [Sp.res]
    go_wp2_with fail
    refine (Swp.any _ _ _ _ hn.1 hn.2 KB).mono ?_
    rintro e w3 ⟨rfl, hk⟩
    have hk3 : Sp.Ok _ w3 := hk
    clear hk
    rw [F.b]; simp only [Sp.res]
    go_wp2_with fail
    refine (Swp.any _ _ _ _ F.wbig.1 F.wbig.2 KB).mono ?_
    rintro e w4 ⟨rfl, hk⟩
    have hk4 : Sp.Ok _ w4 := hk
    clear hk
    rw [F.c]; simp only [Sp.res]
    go_wp2_with fail
    refine (Ext.any _ _ _ _ hn.1 hn.2 KY).mono ?_
    rintro e w5 ⟨rfl, hk⟩
    have hk5 : Sp.Ok _ w5 := hk
    clear hk
    rw [F.d]; simp only [Sp.res]
    go_wp2_with fail
    refine (Ext.any _ _ _ _ F.wx.1 F.wx.2 KY).mono ?_
    rintro e w6 ⟨rfl, hk⟩
    have hk6 : Sp.Ok _ w6 := hk
    clear hk
    rw [F.e]; simp only [Sp.res]
    go_wp2_with fail
    go_ret
    refine ⟨by simp, ?_⟩
    refine hk6.trans' (hk5.trans' (hk4.trans' (hk3.trans' (hk2.trans' ?_))))
    repeat (first | exact hk1 | refine Sp.Ok.drew ?_ | refine Sp.Ok.alloc ?_ _)
set_option maxRecDepth 100000 in
set_option maxHeartbeats 4000000 in
theorem w32t (n which : Int) (w : World) (hn : Sp.W64 n) (hm : IntKind.u64.wrap which % 3 = 1) :
    Calls Try.prog 6 #[.int .u64 n, .int .i64 which, .bool true] w fun e w' => e = .returned (.bool true) ∧ Sp.Ok w w' := by
  have hwr : 0 ≤ IntKind.u64.wrap which := by rw [IntKind.wrap_u64]; omega
  have KB := key 32 (by decide) (by decide)
  have KY := key 4 (by decide) (by decide)
  obtain ⟨x, F⟩ := Sp.facts32 n true hn
  have _tok := True.intro
  go_enter Try.func6, Try.ntmps6
  go_wp2_with (go_at_call 9; refine (Top.awake _).mono ?_; rintro e w1 ⟨rfl, hk1⟩)
  go_region
  all_goals
    go_wp2_with fail
    refine (Swp.any _ _ _ _ hn.1 hn.2 KB).mono ?_
    rintro e w2 ⟨rfl, hk⟩
    have hk2 : Sp.Ok _ w2 := hk
    clear hk
    rw [F.a]; simp only [Sp.res]
    go_wp2_with fail
    refine (Swp.any _ _ _ _ hn.1 hn.2 KB).mono ?_
    rintro e w3 ⟨rfl, hk⟩
    have hk3 : Sp.Ok _ w3 := hk
    clear hk
    rw [F.b]; simp only [Sp.res]
    go_wp2_with fail
    refine (Swp.any _ _ _ _ F.wbig.1 F.wbig.2 KB).mono ?_
    rintro e w4 ⟨rfl, hk⟩
    have hk4 : Sp.Ok _ w4 := hk
    clear hk
    rw [F.c]; simp only [Sp.res]
    go_wp2_with fail
    refine (Ext.any _ _ _ _ hn.1 hn.2 KY).mono ?_
    rintro e w5 ⟨rfl, hk⟩
    have hk5 : Sp.Ok _ w5 := hk
    clear hk
    rw [F.d]; simp only [Sp.res]
    go_wp2_with fail
    refine (Ext.any _ _ _ _ F.wx.1 F.wx.2 KY).mono ?_
    rintro e w6 ⟨rfl, hk⟩
    have hk6 : Sp.Ok _ w6 := hk
    clear hk
    rw [F.e]; simp only [Sp.res]
    go_wp2_with fail
    go_ret
    refine ⟨by simp, ?_⟩
    refine hk6.trans' (hk5.trans' (hk4.trans' (hk3.trans' (hk2.trans' ?_))))
    repeat (first | exact hk1 | refine Sp.Ok.drew ?_ | refine Sp.Ok.alloc ?_ _)
set_option maxRecDepth 100000 in
set_option maxHeartbeats 4000000 in
theorem w64f (n which : Int) (w : World) (hn : Sp.W64 n) (hm : IntKind.u64.wrap which % 3 = 2) :
    Calls Try.prog 6 #[.int .u64 n, .int .i64 which, .bool false] w fun e w' => e = .returned (.bool true) ∧ Sp.Ok w w' := by
  have hwr : 0 ≤ IntKind.u64.wrap which := by rw [IntKind.wrap_u64]; omega
  have KB := key 64 (by decide) (by decide)
  have KY := key 8 (by decide) (by decide)
  obtain ⟨x, F⟩ := Sp.facts64 n false hn
  obtain rfl := F.s rfl
  go_enter Try.func6, Try.ntmps6
  go_wp2_with (go_at_call 9; refine (Top.awake _).mono ?_; rintro e w1 ⟨rfl, hk1⟩)
  go_region
  all_goals
    go_wp2_with fail
    refine (Swp.any _ _ _ _ hn.1 hn.2 KB).mono ?_
    rintro e w2 ⟨rfl, hk⟩
    have hk2 : Sp.Ok _ w2 := hk
    clear hk
    rw [F.a]; simp only [Sp.res]
    go_wp2_with fail
    refine (Swp.any _ _ _ _ hn.1 hn.2 KB).mono ?_
    rintro e w3 ⟨rfl, hk⟩
    have hk3 : Sp.Ok _ w3 := hk
    clear hk
    rw [F.b]; simp only [Sp.res]
    go_wp2_with fail
    refine (Swp.any _ _ _ _ F.wbig.1 F.wbig.2 KB).mono ?_
    rintro e w4 ⟨rfl, hk⟩
    have hk4 : Sp.Ok _ w4 := hk
    clear hk
    rw [F.c]; simp only [Sp.res]
    go_wp2_with fail
    refine (Ext.any _ _ _ _ hn.1 hn.2 KY).mono ?_
    rintro e w5 ⟨rfl, hk⟩
    have hk5 : Sp.Ok _ w5 := hk
    clear hk
    rw [F.d]; simp only [Sp.res]
    go_wp2_with fail
    refine (Ext.any _ _ _ _ F.wx.1 F.wx.2 KY).mono ?_
    rintro e w6 ⟨rfl, hk⟩
    have hk6 : Sp.Ok _ w6 := hk
    clear hk
    rw [F.e]; simp only [Sp.res]
    go_wp2_with fail
    go_ret
    refine ⟨by simp, ?_⟩
    refine hk6.trans' (hk5.trans' (hk4.trans' (hk3.trans' (hk2.trans' ?_))))
    repeat (first | exact hk1 | refine Sp.Ok.drew ?_ | refine Sp.Ok.alloc ?_ _)
set_option maxRecDepth 100000 in
set_option maxHeartbeats 4000000 in
theorem w64t (n which : Int) (w : World) (hn : Sp.W64 n) (hm : IntKind.u64.wrap which % 3 = 2) :
    Calls Try.prog 6 #[.int .u64 n, .int .i64 which, .bool true] w fun e w' => e = .returned (.bool true) ∧ Sp.Ok w w' := by
  have hwr : 0 ≤ IntKind.u64.wrap which := by rw [IntKind.wrap_u64]; omega
  have KB := key 64 (by decide) (by decide)
  have KY := key 8 (by decide) (by decide)
  obtain ⟨x, F⟩ := Sp.facts64 n true hn
  have _tok := True.intro
  go_enter Try.func6, Try.ntmps6
  go_wp2_with (go_at_call 9; refine (Top.awake _).mono ?_; rintro e w1 ⟨rfl, hk1⟩)
  go_region
  all_goals
    go_wp2_with fail
    refine (Swp.any _ _ _ _ hn.1 hn.2 KB).mono ?_
    rintro e w2 ⟨rfl, hk⟩
    have hk2 : Sp.Ok _ w2 := hk
    clear hk
    rw [F.a]; simp only [Sp.res]
    go_wp2_with fail
    refine (Swp.any _ _ _ _ hn.1 hn.2 KB).mono ?_
    rintro e w3 ⟨rfl, hk⟩
    have hk3 : Sp.Ok _ w3 := hk
    clear hk
    rw [F.b]; simp only [Sp.res]
    go_wp2_with fail
    refine (Swp.any _ _ _ _ F.wbig.1 F.wbig.2 KB).mono ?_
    rintro e w4 ⟨rfl, hk⟩
    have hk4 : Sp.Ok _ w4 := hk
    clear hk
    rw [F.c]; simp only [Sp.res]
    go_wp2_with fail
    refine (Ext.any _ _ _ _ hn.1 hn.2 KY).mono ?_
    rintro e w5 ⟨rfl, hk⟩
    have hk5 : Sp.Ok _ w5 := hk
    clear hk
    rw [F.d]; simp only [Sp.res]
    go_wp2_with fail
    refine (Ext.any _ _ _ _ F.wx.1 F.wx.2 KY).mono ?_
    rintro e w6 ⟨rfl, hk⟩
    have hk6 : Sp.Ok _ w6 := hk
    clear hk
    rw [F.e]; simp only [Sp.res]
    go_wp2_with fail
    go_ret
    refine ⟨by simp, ?_⟩
    refine hk6.trans' (hk5.trans' (hk4.trans' (hk3.trans' (hk2.trans' ?_))))
    repeat (first | exact hk1 | refine Sp.Ok.drew ?_ | refine Sp.Ok.alloc ?_ _)
theorem walk (n which : Int) (signed : Bool) (h0 : (Lit.int .u64 n).wf = true) (h1 : (Lit.int .i64 which).wf = true) (w : World) :
    Calls Try.prog 6 #[.int .u64 n, .int .i64 which, .bool signed] w fun e w' => e = .returned (.bool true) ∧ Below w.heap.size w w' := by
  have hn := w64_of h0
  have h : IntKind.u64.wrap which % 3 = 0 ∨ IntKind.u64.wrap which % 3 = 1 ∨ IntKind.u64.wrap which % 3 = 2 := by omega
  rcases h with h | h | h <;> cases signed
  · exact w16f n which w hn h
  · exact w16t n which w hn h
  · exact w32f n which w hn h
  · exact w32t n which w hn h
  · exact w64f n which w hn h
  · exact w64t n which w hn h
end Go.Proofs.Ytjbmlnkacfbheaa.SwapsW
