/-
  The chapter's example holds.
-/
import Derived.Test.YtlajffbjkgedhaaRingPut
import Derived.Test.YtlajffbjkgedhaaStr
import Derived.Lib.SlBytesConst
namespace Go.Proofs.Ytlajffbjkgedhaa.M
open Go.RowKit
set_option linter.unusedVariables false
set_option linter.unusedSectionVars false
set_option linter.unusedSimpArgs false
theorem new7 (n : Int) (w : World) (h1 : 16 ≤ n) (h2 : n ≤ 16384) :
    Calls Try.prog 9 #[.agg #[.int .u8 7, .int .i64 0, .int .i64 0, .int .i64 n]] w fun e w' => ∃ R, e = .returned (.tuple #[.pointer (some ⟨R, 0, none⟩), .int .i64 0]) ∧ RingS w' w.heap.size R n [] ∧ But [] w w' := by
  refine (ringNew n w h1 h2).mono ?_
  rintro e w' ⟨R, rfl, hR, hc, hb⟩
  exact ⟨R, rfl, RingS.new hc hR, hb⟩
theorem RingS.takes {w : World} {base R : Nat} {n : Int} {x : Lk} {ls : List Lk} (h : RingS w base R n (x :: ls)) (hn : 0 < n) :
    Calls Try.prog 12 #[.pointer (some ⟨R, 0, none⟩)] w fun e w' => e = .returned (.tuple #[x.sl, .int .i64 0]) ∧ RingS w' base R n ls ∧ But [R] w w' ∧ Own w' x.sl x.bs := by
  obtain ⟨l, h1, _⟩ := h.cell
  obtain ⟨a, c, e⟩ := own_form h.links.2.1
  have hb := h.links.1
  have hne := (h.ne x (by simp)).1
  rw [e] at hb
  refine (ringTake_some R x.blk a x.bs.length c (lkPtr ls) _ n w h1 hn hb hne).mono ?_
  rintro e' w' ⟨rfl, rfl⟩
  rw [e]
  have ht := h.take
  rw [e] at ht
  exact ⟨rfl, ht⟩
theorem RingS.takesNone {w : World} {base R : Nat} {n : Int} (h : RingS w base R n []) (hn : 0 < n) :
    Calls Try.prog 12 #[.pointer (some ⟨R, 0, none⟩)] w fun e w' => e = .returned (.tuple #[.slice none 0 0, .int .i64 6]) ∧ w = w' := by
  obtain ⟨l, h1, _⟩ := h.cell
  exact ringTake_none R _ n w h1 hn
theorem RingS.tops {w : World} {base R : Nat} {n : Int} {ls : List Lk} (h : RingS w base R n ls) : ∀ k ∈ R :: ls.map Lk.blk, base ≤ k := by
  intro k hk
  rcases List.mem_cons.1 hk with rfl | hk
  · exact h.hbase
  · obtain ⟨x, hx, rfl⟩ := List.mem_map.1 hk
    exact (h.low x hx).1
set_option maxRecDepth 100000 in
set_option maxHeartbeats 2000000 in
theorem awake (w : World) : Calls Try.prog 8 #[] w fun e w' => e = .returned (.bool true) ∧ But [] w w' := by
  have ab : IsBytes [.int .u8 97, .int .u8 98] := by intro u hu; simp at hu; rcases hu with rfl | rfl <;> exact ⟨_, rfl⟩
  have kc := fun (w : World) (C : Array Value) (n c : Nat) => Lib.run_convert_bytes_const (P := Try.prog) w 36 5 C n c Try.underlying36 Try.underlying5
  go_enter Try.func8, Try.ntmps8
  go_wp2_with fail
  refine (new7 20 _ (by omega) (by omega)).mono ?_
  rintro e w1 ⟨R, rfl, hS, hb⟩
  have hz1 := hb.size
  have HS := Lib.hid hS
  have HB := Lib.hid hb
  clear hS hb
  go_wp2_with fail
  refine (ringPut_ok (base := w.heap.size) (n := 20) (ls := []) (s := .slice (some ⟨w1.heap.size, 0, none⟩) 2 2) (xs := [.int .u8 97, .int .u8 98]) (HS.out.keep ((But.refl [] w1).alloc _)) (by omega) (by omega) (by decide) (sees_new w1 _ _ _ 2 2 rfl (Nat.le_refl _)) ab (by decide) (by decide)).mono ?_
  rintro e w2 ⟨rfl, z1, hz, hzn, hS, hb⟩
  have hL2 := HS.out.tops
  have HB2 : Hid (But [] w w2) := Lib.hid ((HB.out.alloc _).trans hb (fun x hx => .inr (hL2 x hx)))
  have HS2 : Hid (RingS w2 w.heap.size R 20 [z1]) := Lib.hid hS
  have HZ := Lib.hid hz
  have hu2 : used [z1] = 10 := by simp [used, hz]
  have HU2 := Lib.hid hu2
  clear hL2 hb hS hz HS HB hu2
  rw [size_alloc] at hzn
  have HZN := Lib.hid hzn
  clear hzn
  go_wp2_with fail
  refine (calls_val (HS2.out.room (by omega) (by omega) (by rw [HU2.out]; omega)) (v' := .int .i64 10) (by rw [HU2.out]; rfl)).mono ?_
  rintro e w3 ⟨rfl, hb⟩
  have HS3 := Lib.hid (HS2.out.keep hb)
  have HB3 : Hid (But [] w w3) := Lib.hid (HB2.out.trans hb (by simp))
  have hz3 := hb.size
  clear hb HS2 HB2
  go_wp2_with fail
  refine (ringPut_full (base := w.heap.size) (n := 20) (ls := [z1]) (HS3.out.keep ((But.refl [] w3).alloc _)) (by omega) (by omega) (by rw [HU2.out]; omega) _ 3 3 (by omega) (by rw [HU2.out]; omega)).mono ?_
  rintro e w4 ⟨rfl, hb⟩
  have HS4 := Lib.hid ((HS3.out.keep ((But.refl [] w3).alloc _)).keep hb)
  have HB4 : Hid (But [] w w4) := Lib.hid ((HB3.out.alloc _).trans hb (by simp))
  clear hb HS3 HB3
  go_wp2_with fail
  refine (ringPut_ok (base := w.heap.size) (n := 20) (ls := [z1]) (s := .slice none 0 0) (xs := []) HS4.out (by omega) (by omega) (by rw [HU2.out]; omega) (.inl ⟨rfl, rfl⟩) (by intro u hu; cases hu) (by decide) (by rw [HU2.out]; decide)).mono ?_
  rintro e w5 ⟨rfl, z2, hz, hzn, hS, hb⟩
  have hL := HS4.out.tops
  have HB5 : Hid (But [] w w5) := Lib.hid (HB4.out.trans hb (fun x hx => .inr (hL x hx)))
  have HS5 : Hid (RingS w5 w.heap.size R 20 [z1, z2]) := Lib.hid hS
  have HZ2 := Lib.hid hz
  have HU3 : Hid (used [z1, z2] = 18) := Lib.hid (by simp [used, hz, HZ.out])
  have HU4 : Hid (used [z2] = 8) := Lib.hid (by simp [used, hz])
  clear hz hzn hS hb hL HS4 HB4
  go_wp2_with fail
  refine (calls_val (HS5.out.room (by omega) (by omega) (by rw [HU3.out]; omega)) (v' := .int .i64 2) (by rw [HU3.out]; rfl)).mono ?_
  rintro e w6 ⟨rfl, hb⟩
  have HS6 := Lib.hid (HS5.out.keep hb)
  have HB6 : Hid (But [] w w6) := Lib.hid (HB5.out.trans hb (by simp))
  clear hb HS5 HB5
  obtain ⟨x1, c1, e1⟩ := own_form HS6.out.links.2.1
  have e1' : z1.sl = .slice x1 2 c1 := by rw [e1, HZ.out]; rfl
  clear e1
  have E1 := Lib.hid e1'
  clear e1'
  go_wp2_with fail
  refine (calls_val (HS6.out.takes (by omega)) (by rw [E1.out])).mono ?_
  rintro e w7 ⟨rfl, hS, hb, ho⟩
  rw [E1.out, HZ.out] at ho
  have hRb := HS6.out.hbase
  have HB7 : Hid (But [] w w7) := Lib.hid (HB6.out.trans hb (fun x hx => .inr (by simp at hx; omega)))
  have HS7 : Hid (RingS w7 w.heap.size R 20 [z2]) := Lib.hid hS
  have HO7 := Lib.hid ho
  clear hb hS ho HS6 HB6
  go_wp2_with fail
  refine (calls_val (HS7.out.room (by omega) (by omega) (by rw [HU4.out]; omega)) (v' := .int .i64 12) (by rw [HU4.out]; rfl)).mono ?_
  rintro e w8 ⟨rfl, hb⟩
  have HS8 := Lib.hid (HS7.out.keep hb)
  have HO8 := Lib.hid (HO7.out.but hb (by simp))
  have HB8 : Hid (But [] w w8) := Lib.hid (HB7.out.trans hb (by simp))
  clear hb HS7 HB7 HO7
  obtain ⟨x2, c2, e2⟩ := own_form HS8.out.links.2.1
  have E2 : Hid (z2.sl = .slice x2 0 c2) := Lib.hid (by rw [e2, HZ2.out]; rfl)
  clear e2
  go_wp2_with fail
  refine (calls_val (HS8.out.takes (by omega)) (by rw [E2.out])).mono ?_
  rintro e w9 ⟨rfl, hS, hb, ho⟩
  have hne := (HO8.out.sees.but hb (by
    intro k hk
    simp only [List.mem_singleton]
    intro e
    obtain ⟨l, h1, _⟩ := HS8.out.cell
    subst e
    exact HO8.out.off hk h1 (by decide)))
  have HO9 := Lib.hid hne
  have HB9 : Hid (But [] w w9) := Lib.hid (HB8.out.trans hb (fun x hx => .inr (by simp at hx; omega)))
  have HS9 : Hid (RingS w9 w.heap.size R 20 []) := Lib.hid hS
  clear hb hS ho HS8 HB8 HO8 hne
  have hcv : (convert 36 9 (.slice x1 2 c1)).run Try.prog w9 = .ok (.string { data := #[97, 98] }) w9 := conv_str (xs := [97, 98]) Try.underlying36 Try.underlying5 Try.underlying9 HO9.out
  go_wp2_with fail
  refine (HS9.out.takesNone (by omega)).mono ?_
  rintro e w10 ⟨rfl, rfl⟩
  go_wp2_with fail
  go_ret
  exact ⟨rfl, HB9.out⟩
end Go.Proofs.Ytlajffbjkgedhaa.M
