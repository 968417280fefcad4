/-
  'ArrayNil' tells true: the walk.
-/
import Derived.Test.YtkgoblpddjpcnaaGreatArrAwake
import Derived.Test.YtkgoblpddjpcnaaGreatOpen
import Derived.Test.YtkgoblpddjpcnaaGreatOpenS
import Derived.Test.YtkgoblpddjpcnaaGreatDeed
import Derived.Lib.SmallJoins
namespace Go.Proofs.YtkgoblpddjpcnaaGreat.M
open Go.RowKit Go.Shelf
set_option linter.unusedVariables false
set_option linter.unusedSectionVars false
set_option linter.unusedSimpArgs false
set_option maxRecDepth 100000 in
set_option maxHeartbeats 4000000 in
theorem arrayNil (what flags place off : Int) (ka ba : Option Addr) (kn kc bn bc : Nat) (w : World) : Calls Tryz.prog 14 #[.agg #[.int .i64 what, .slice ka kn kc, .slice ba bn bc, .int .u64 flags, .int .i64 place, .int .i64 off]] w fun e w' => e = .returned (.bool true) ∧ But [] w w' := by
  obtain ⟨W0, hW0⟩ : ∃ W0, W0 = w.alloc (.cells #[.int .i64 what, .slice ka kn kc, .slice ba bn bc, .int .u64 flags, .int .i64 place, .int .i64 off] 39) := ⟨_, rfl⟩
  have hb0 : But [] w W0 := by rw [hW0]; exact (But.refl [] w).alloc _
  have hd0 : W0.heap[w.heap.size]? = some (.cells #[.int .i64 what, .slice ka kn kc, .slice ba bn bc, .int .u64 flags, .int .i64 place, .int .i64 off] 39) := by rw [hW0]; exact al_at w _
  have HW := Lib.hid hW0
  have HB0 := Lib.hid hb0
  have HD0 := Lib.hid hd0
  clear hW0 hb0 hd0
  go_enter Tryz.func14, Tryz.ntmps14
  go_upto_region 1 with fail
  rw [← HW.out]
  have c1 : W0.cell? ⟨w.heap.size, 1, none⟩ = some (.slice ka kn kc) := cl_of HD0.out 1
  have c2 : W0.cell? ⟨w.heap.size, 2, none⟩ = some (.slice ba bn bc) := cl_of HD0.out 2
  by_cases hbig : 1000 < kn ∨ 1000 < bn
  · have hA : ∀ w1, But [] W0 w1 → But [] w w1 := fun w1 h => HB0.out.trans h (by simp)
    rcases (by omega : 1000 < kn ∨ (¬ 1000 < kn ∧ 1000 < bn)) with h1 | ⟨h1, h2⟩
    · have d1 : (1000 : Int) < kn := by omega
      go_wp2_with fail
      refine (awake _).mono ?_
      rintro e w1 ⟨rfl, hb⟩
      have HB := Lib.hid (hA _ hb)
      clear hb
      go_wp2_with fail
      go_ret
      exact ⟨rfl, HB.out⟩
    · have d1 : ¬ (1000 : Int) < kn := by omega
      have d2 : (1000 : Int) < bn := by omega
      go_wp2_with fail
      refine (awake _).mono ?_
      rintro e w1 ⟨rfl, hb⟩
      have HB := Lib.hid (hA _ hb)
      clear hb
      go_wp2_with fail
      go_ret
      exact ⟨rfl, HB.out⟩
  · have d1 : ¬ (1000 : Int) < kn := by omega
    have d2 : ¬ (1000 : Int) < bn := by omega
    have d1' : decide ((1000 : Int) < kn) = false := by simp; omega
    have d2' : decide ((1000 : Int) < bn) = false := by simp; omega
    clear hbig
    obtain ⟨W1, hW1⟩ : ∃ W1, W1 = (W0.alloc (.cells #[.slice none 0 0, .int .i64 0] 58)).alloc (.cells #[.pointer none, .pointer (some ⟨W0.heap.size, 0, none⟩)] 28) := ⟨_, rfl⟩
    have hb1 : But [] W0 W1 := by rw [hW1]; exact ((But.refl [] W0).alloc _).alloc _
    have hO1 : OffA W1 (.pointer (some ⟨W0.heap.size, 0, none⟩)) := .inr ⟨_, _, rfl, by rw [hW1]; exact al_keep (al_at W0 _) _⟩
    have hl : W1.heap[W0.heap.size + 1]? = some (.cells #[.pointer none, .pointer (some ⟨W0.heap.size, 0, none⟩)] 28) := by rw [hW1]; exact al_eq _ _ _ (by rw [size_alloc])
    have HW1 := Lib.hid hW1
    have HB1 := Lib.hid hb1
    have HO1 := Lib.hid hO1
    have HL := Lib.hid hl
    clear hW1 hb1 hO1 hl
    go_upto_block 0 with fail
    rw [← HW1.out]
    clear HW1 c1 c2
    have HBX : Hid (But [] W1 W1) := Lib.hid (But.refl _ _)
    have hdd := HB1.out.heap HD0.out (by simp)
    have k1 : W1.cell? ⟨w.heap.size, 1, none⟩ = some (.slice ka kn kc) := cl_of hdd 1
    have k2 : W1.cell? ⟨w.heap.size, 2, none⟩ = some (.slice ba bn bc) := cl_of hdd 2
    have k3 : W1.cell? ⟨w.heap.size, 3, none⟩ = some (.int .u64 flags) := cl_of hdd 3
    have k4 : W1.cell? ⟨w.heap.size, 4, none⟩ = some (.int .i64 place) := cl_of hdd 4
    have k5 : W1.cell? ⟨w.heap.size, 5, none⟩ = some (.int .i64 off) := cl_of hdd 5
    have p0 : W1.cell? ⟨W0.heap.size + 1, 0, none⟩ = some (.pointer none) := cl_of HL.out 0
    have hO : OffA W1 (.pointer none) := .inl rfl
    clear hdd
    go_wp2_with fail
    refine wp_loop_rounds 3 ?_
    rw [rounds_succ]
    go_wp2_with (first | (go_at_call 15; refine (lookup_off _ hO _ _ _).mono ?_; rintro e w' ⟨rfl, hb⟩; have hO := hO.but hb; have HBX := Lib.hid (HBX.out.trans hb (by simp)); have k1 := cell_but hb k1 (by simp); have k2 := cell_but hb k2 (by simp); have k3 := cell_but hb k3 (by simp); have k4 := cell_but hb k4 (by simp); have k5 := cell_but hb k5 (by simp); clear hb) | (go_at_call 10; refine (value_off _ hO _).mono ?_; rintro e w' ⟨rfl, hb⟩; have hO := hO.but hb; have HBX := Lib.hid (HBX.out.trans hb (by simp)); have k1 := cell_but hb k1 (by simp); have k2 := cell_but hb k2 (by simp); have k3 := cell_but hb k3 (by simp); have k4 := cell_but hb k4 (by simp); have k5 := cell_but hb k5 (by simp); clear hb) | (go_at_call 16; refine (update_off _ hO _ _ _ _ _ _ _).mono ?_; rintro e w' ⟨rfl, hb⟩; have hO := hO.but hb; have HBX := Lib.hid (HBX.out.trans hb (by simp)); have k1 := cell_but hb k1 (by simp); have k2 := cell_but hb k2 (by simp); have k3 := cell_but hb k3 (by simp); have k4 := cell_but hb k4 (by simp); have k5 := cell_but hb k5 (by simp); clear hb) | (go_at_call 18; refine (delete_off _ hO _).mono ?_; rintro e w' ⟨rfl, hb⟩; have hO := hO.but hb; have HBX := Lib.hid (HBX.out.trans hb (by simp)); have k1 := cell_but hb k1 (by simp); have k2 := cell_but hb k2 (by simp); have k3 := cell_but hb k3 (by simp); have k4 := cell_but hb k4 (by simp); have k5 := cell_but hb k5 (by simp); clear hb) | (go_at_call 17; refine (set_off _ hO _ _ _ _ _).mono ?_; rintro e w' ⟨rfl, hb⟩; have hO := hO.but hb; have HBX := Lib.hid (HBX.out.trans hb (by simp)); have k1 := cell_but hb k1 (by simp); have k2 := cell_but hb k2 (by simp); have k3 := cell_but hb k3 (by simp); have k4 := cell_but hb k4 (by simp); have k5 := cell_but hb k5 (by simp); clear hb))
    have hO := HO1.out.but HBX.out
    have p1 := cell_but HBX.out (cl_of HL.out 1 : W1.cell? ⟨W0.heap.size + 1, 1, none⟩ = some (.pointer (some ⟨W0.heap.size, 0, none⟩))) (by simp)
    clear p0
    rw [rounds_succ]
    go_wp2_with (first | (go_at_call 15; refine (lookup_off _ hO _ _ _).mono ?_; rintro e w' ⟨rfl, hb⟩; have hO := hO.but hb; have HBX := Lib.hid (HBX.out.trans hb (by simp)); have k1 := cell_but hb k1 (by simp); have k2 := cell_but hb k2 (by simp); have k3 := cell_but hb k3 (by simp); have k4 := cell_but hb k4 (by simp); have k5 := cell_but hb k5 (by simp); clear hb) | (go_at_call 10; refine (value_off _ hO _).mono ?_; rintro e w' ⟨rfl, hb⟩; have hO := hO.but hb; have HBX := Lib.hid (HBX.out.trans hb (by simp)); have k1 := cell_but hb k1 (by simp); have k2 := cell_but hb k2 (by simp); have k3 := cell_but hb k3 (by simp); have k4 := cell_but hb k4 (by simp); have k5 := cell_but hb k5 (by simp); clear hb) | (go_at_call 16; refine (update_off _ hO _ _ _ _ _ _ _).mono ?_; rintro e w' ⟨rfl, hb⟩; have hO := hO.but hb; have HBX := Lib.hid (HBX.out.trans hb (by simp)); have k1 := cell_but hb k1 (by simp); have k2 := cell_but hb k2 (by simp); have k3 := cell_but hb k3 (by simp); have k4 := cell_but hb k4 (by simp); have k5 := cell_but hb k5 (by simp); clear hb) | (go_at_call 18; refine (delete_off _ hO _).mono ?_; rintro e w' ⟨rfl, hb⟩; have hO := hO.but hb; have HBX := Lib.hid (HBX.out.trans hb (by simp)); have k1 := cell_but hb k1 (by simp); have k2 := cell_but hb k2 (by simp); have k3 := cell_but hb k3 (by simp); have k4 := cell_but hb k4 (by simp); have k5 := cell_but hb k5 (by simp); clear hb) | (go_at_call 17; refine (set_off _ hO _ _ _ _ _).mono ?_; rintro e w' ⟨rfl, hb⟩; have hO := hO.but hb; have HBX := Lib.hid (HBX.out.trans hb (by simp)); have k1 := cell_but hb k1 (by simp); have k2 := cell_but hb k2 (by simp); have k3 := cell_but hb k3 (by simp); have k4 := cell_but hb k4 (by simp); have k5 := cell_but hb k5 (by simp); clear hb))
    rw [rounds_succ]
    go_wp2_with fail
    refine (awake _).mono ?_
    rintro e w9 ⟨rfl, hb⟩
    have HB9 : Hid (But [] w w9) := Lib.hid (((HB0.out.trans HB1.out (by simp)).trans HBX.out (by simp)).trans hb (by simp))
    clear hb
    go_wp2_with fail
    go_ret
    exact ⟨rfl, HB9.out⟩
theorem arrayNil_walk (w : World) (x : DeedV) (h : (Sees w x.key x.ks ∧ IsBytes x.ks ∧ x.ks.length ≤ 140737488351232) ∧ (Sees w x.b x.bs ∧ IsBytes x.bs ∧ x.bs.length ≤ 140737488351232) ∧ (Lit.int .i64 x.what).wf = true ∧ (Lit.int .u64 x.flags).wf = true ∧ (Lit.int .i64 x.place).wf = true ∧ (Lit.int .i64 x.off).wf = true) :
    Calls Tryz.prog 14 #[x.val] w fun e w' => e = .returned (.bool true) ∧ Below w.heap.size w w' := by
  obtain ⟨⟨hk, _⟩, ⟨hb, _⟩, _⟩ := h
  obtain ⟨a, c, e1, _⟩ := sees_shape hk
  obtain ⟨a2, c2, e2, _⟩ := sees_shape hb
  rw [DeedV.val, e1, e2]
  exact (arrayNil _ _ _ _ a a2 _ c _ c2 w).mono fun _ _ ⟨he, hb⟩ => ⟨he, hb.below (Nat.le_refl _) (by simp)⟩
end Go.Proofs.YtkgoblpddjpcnaaGreat.M
