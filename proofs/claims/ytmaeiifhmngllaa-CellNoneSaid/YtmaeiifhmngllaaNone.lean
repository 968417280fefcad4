/-
  CellNone: the walk.
-/
import Derived.Test.YtmaeiifhmngllaaAwake
import Derived.Test.YtmaeiifhmngllaaNoneA
import Derived.Test.YtmaeiifhmngllaaCellIn
namespace Go.Proofs.Ytmaeiifhmngllaa.M
open Go.RowKit
set_option linter.unusedVariables false
set_option linter.unusedSectionVars false
set_option linter.unusedSimpArgs false
set_option maxRecDepth 100000 in
set_option maxHeartbeats 4000000 in
theorem cellNone (off n k wd rg of_ : Int) (a : Option Addr) (bl c : Nat) (w : World) (hwf : (Lit.int .u8 k).wf = true) :
    Calls Try.prog 4 #[.int .i64 off, .int .i64 n, .agg #[.int .u8 k, .int .u64 wd, .int .i64 rg, .int .i64 of_], .slice a bl c] w fun e w' => e = .returned (.bool true) ∧ But [] w w' := by
  have hv := fun w => zero_s w
  have HBK := Lib.hid (fun w => v0_blk w false)
  have HWF := Lib.hid hwf
  obtain ⟨V, hV⟩ : ∃ V, V = V0 false := ⟨_, rfl⟩
  rw [← hV] at hv HBK
  clear hV hwf
  by_cases h6 : (600 : Int) < bl
  · go_enter Try.func4, Try.ntmps4
    go_wp2_with fail
    refine (awake _).mono ?_
    rintro e w1 ⟨rfl, hb1⟩
    have HB1 := Lib.hid (((But.refl [] w).alloc _).trans hb1 (by simp))
    clear hb1
    go_wp2_with fail
    go_ret
    exact ⟨rfl, HB1.out⟩
  · go_enter Try.func4, Try.ntmps4
    go_wp2_with fail
    refine (awake _).mono ?_
    rintro e w1 ⟨rfl, hb1⟩
    have H6 := Lib.hid (hb1.heap (al_at _ _) (by simp))
    have HB1 := Lib.hid (((But.refl [] w).alloc _).trans hb1 (by simp))
    clear hb1
    go_wp2_with fail
    obtain ⟨W0, hW0⟩ : ∃ W0, W0 = (w1.alloc (.cells V 57)).alloc (.cells #[.pointer none, .pointer (some ⟨w1.heap.size, 0, none⟩)] 25) := ⟨_, rfl⟩
    rw [← hW0]
    have HB : Hid (Blk W0 w1.heap.size 57 833 (S0.val false)) := Lib.hid (by rw [hW0]; exact (HBK.out w1).but ((But.refl [] _).alloc _) (by simp))
    have HR : Hid (W0.heap[w1.heap.size + 1]? = some (.cells #[.pointer none, .pointer (some ⟨w1.heap.size, 0, none⟩)] 25)) := Lib.hid (by rw [hW0]; exact al_eq _ _ _ (by rw [size_alloc]))
    have H60 : Hid (W0.heap[w.heap.size]? = some (.cells #[.int .u8 k, .int .u64 wd, .int .i64 rg, .int .i64 of_] 33)) := Lib.hid (by rw [hW0]; exact al_keep (al_keep H6.out _) _)
    have HB0 : Hid (But [] w W0) := Lib.hid (by rw [hW0]; exact (HB1.out.alloc _).alloc _)
    clear hW0 HBK hv H6 HB1
    go_loopw [10] (fun i wr => ∃ j : Nat, j ≤ 2 ∧ i = .int .i64 j ∧ But [] W0 wr) (fun i _ => 2 - (intOf i).toNat)
    case atStart => exact ⟨0, by omega, rfl, But.refl _ _⟩
    case round =>
      obtain ⟨j, hj, rfl, hb⟩ := hrel
      have HBW := Lib.hid hb
      have hj0 : (0 : Int) ≤ j := by omega
      by_cases hlt : j < 2
      · have hj2 : (j : Int) < 2 := by omega
        have hw1 : wrap64 ((j : Int) + 1) = (j : Int) + 1 := by rw [wrap64]; omega
        obtain ⟨p, hc, hno⟩ : ∃ p, W0.cell? ⟨w1.heap.size + 1, j, none⟩ = some p ∧ NoOne W0 p := by
          match j, hlt with
          | 0, _ => exact ⟨_, cl_of HR.out 0, .inl rfl⟩
          | 1, _ => exact ⟨_, cl_of HR.out 1, .inr ⟨_, _, rfl, HB.out⟩⟩
        have HC := Lib.hid hc
        have HNO := Lib.hid hno
        have c1 : wr.cell? ⟨w1.heap.size + 1, j, none⟩ = some p := cell_but hb hc (by simp)
        have HLD := Lib.hid (no_load (HNO.out.but hb) off n)
        clear hb hc hno
        go_wp2_with fail
        refine HLD.out.mono ?_
        rintro e w2 ⟨rfl, hb2⟩
        have HB2 := Lib.hid (HBW.out.trans hb2 (by simp))
        clear hb2 HLD c1
        unfold CV.agg c0
        have c2 : (w2.alloc (.cells #[.int .u8 0, .int .u64 0, .int .i64 0, .int .i64 0] 33)).cell? ⟨w1.heap.size + 1, j, none⟩ = some p := cell_but (HB2.out.alloc _) HC.out (by simp)
        have HRD := Lib.hid (no_read (HNO.out.but (HB2.out.alloc (.cells #[.int .u8 0, .int .u64 0, .int .i64 0, .int .i64 0] 33))) off n)
        go_wp2_with fail
        refine HRD.out.mono ?_
        rintro e w3 ⟨rfl, rfl⟩
        clear c2 HRD
        go_wp2_with fail
        refine none11 _ (Lib.hid ((HB2.out.alloc _).heap H60.out (by simp))) (Lib.hid (al_at _ _)) (Lib.hid (cell_but (HB2.out.alloc _) HC.out (by simp))) (Lib.hid hj0) (Lib.hid hj2) (Lib.hid (HNO.out.but (HB2.out.alloc _))) HWF ?_
        intro z47 z48 z49 z50 z51 z52 z53 z54 z55 z56 z57 z58 z59 z60 z61 z62 z63 z64 z65 z66 z67 z68 z69 z70 z71 z72 z73 z74 z75 z76 z77 z78 z79 z80 z81 z82 w5 hb5
        have HB5 := Lib.hid ((HB2.out.alloc _).trans hb5 (by simp))
        clear hb5
        go_wp2_with fail
        go_roundw
        case rel => exact ⟨j + 1, by omega, by go_num, HB5.out⟩
        case measure => simp [intOf]; omega
      · obtain rfl : j = 2 := by omega
        go_wp2_with fail
        go_ret
        exact ⟨rfl, HB0.out.trans HBW.out (by simp)⟩
theorem cellNone_walk (w : World) (off n : Int) (x : CV) (v : Value) (xs : List Value) (ho : (Lit.int .i64 off).wf = true) (hn : (Lit.int .i64 n).wf = true) (hx : CellWf x) (hs : Sees w v xs) (hb : IsBytes xs) (hl : xs.length ≤ 140737488351232) :
    Calls Try.prog 4 #[.int .i64 off, .int .i64 n, x.agg, v] w fun e w' => e = .returned (.bool true) ∧ Below w.heap.size w w' := by
  obtain ⟨a, c, rfl⟩ : ∃ a c, v = .slice a xs.length c := by
    rcases hs with ⟨rfl, h0⟩ | ⟨ad, c, rfl, hc, hx⟩
    · exact ⟨none, 0, by rw [h0]; rfl⟩
    · exact ⟨some ad, c, rfl⟩
  exact (cellNone off n x.k x.w x.r x.o a _ c w hx.1).mono fun _ _ ⟨he, hb⟩ => ⟨he, hb.below (Nat.le_refl _) (by simp)⟩
end Go.Proofs.Ytmaeiifhmngllaa.M
