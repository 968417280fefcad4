/-
  The chapter's example holds.
-/
import Derived.Test.YtkgoblpddjpcnaaGreatArrNew
import Derived.Lib.SlBytesConst
namespace Go.Proofs.YtkgoblpddjpcnaaGreat.M
open Go.RowKit Go.Shelf
set_option linter.unusedVariables false
set_option linter.unusedSectionVars false
set_option linter.unusedSimpArgs false
set_option maxHeartbeats 1000000 in
theorem key (n : Nat) (w : World) (hn : n ≤ 255) : Calls Tryz.prog 13 #[.int .i64 n] w fun e w' => e = .returned (.slice (some ⟨w.heap.size, 0, none⟩) 4 4) ∧ KeyIn w' ⟨w.heap.size, 0, none⟩ n 0 0 0 ∧ But [] w w' := by
  have hb : But [] w (w.alloc (.cells #[.int .u8 n, .int .u8 0, .int .u8 0, .int .u8 0] 5)) := (But.refl [] w).alloc _
  have hk : KeyIn (w.alloc (.cells #[.int .u8 n, .int .u8 0, .int .u8 0, .int .u8 0] 5)) ⟨w.heap.size, 0, none⟩ n 0 0 0 := ⟨fun j b hj => by
    rw [add_at, Nat.zero_add]
    match j, hj with
    | 0, hj => cases hj; exact cl_of (al_at _ _) 0
    | 1, hj => cases hj; exact cl_of (al_at _ _) 1
    | 2, hj => cases hj; exact cl_of (al_at _ _) 2
    | 3, hj => cases hj; exact cl_of (al_at _ _) 3
    | j + 4, hj => simp at hj⟩
  have h8 : (n : Int) / 256 = 0 := by omega
  have h16 : (n : Int) / 65536 = 0 := by omega
  have h24 : (n : Int) / 16777216 = 0 := by omega
  have hmod : (n : Int) % 256 = n := by omega
  have HK := Lib.hid hk
  have HB := Lib.hid hb
  clear hk hb
  go_enter Tryz.func13, Tryz.ntmps13
  go_wp2_with fail
  go_ret
  exact ⟨rfl, HK.out, HB.out⟩
theorem sumK_small (n : Nat) (h : n ≤ 255) : sumK (keyItems n 0 0 0) = n := by
  rw [sumK_num ⟨by omega, by omega⟩ ⟨by omega, by omega⟩ ⟨by omega, by omega⟩ ⟨by omega, by omega⟩]
  simp [keyNum]
def AQ (w wx : World) (A : Nat) (rows : List (List Value)) : Prop := ArrS wx (fun b => w.heap.size ≤ b) A 2 rows ∧ But [] w wx
theorem AQ.new {w wx wy : World} {A : Nat} {rows : List (List Value)} (h : AQ w wx A rows) (hb : But [] wx wy) : AQ w wy A rows := ⟨h.1.keep hb (by simp), h.2.trans hb (by simp)⟩
theorem AQ.turn {w wx wy : World} {A g : Nat} {rows rows' : List (List Value)} (h : AQ w wx A rows) (hS : ArrS wy (fun b => w.heap.size ≤ b) A 2 rows') (hg : w.heap.size ≤ g) (hb : But [g] wx wy) : AQ w wy A rows' := ⟨hS, h.2.trans hb (fun x hx => .inr (by simp at hx; omega))⟩
def bs (xs : List Int) : List Value := xs.map (.int .u8)
theorem bs_bytes (xs : List Int) : ∀ u ∈ bs xs, ∃ n : Int, u = .int .u8 n := by
  intro u hu
  obtain ⟨n, _, rfl⟩ := List.mem_map.1 hu
  exact ⟨n, rfl⟩
theorem convA {w : World} {a : Option Addr} {c : Nat} {x y : Int} (h : OwnQ w 5 (.slice a 2 c) (bs [x, y])) : (convert 36 9 (.slice a 2 c)).run Tryz.prog w = .ok (.string (strOfNums [x, y])) w := conv_str (xs := [x, y]) Tryz.underlying36 Tryz.underlying5 Tryz.underlying9 h.sees
set_option maxRecDepth 100000 in
set_option maxHeartbeats 4000000 in
theorem awake (w : World) : Calls Tryz.prog 6 #[] w fun e w' => e = .returned (.bool true) ∧ But [] w w' := by
  have kc := fun (w : World) (C : Array Value) (n c : Nat) => Lib.run_convert_bytes_const (P := Tryz.prog) w 36 5 C n c Tryz.underlying36 Tryz.underlying5
  go_enter Tryz.func6, Tryz.ntmps6
  go_wp2_with fail
  refine (newArr 2 3 (by omega) (by omega) rfl (fun b => w.heap.size ≤ b) (fun b hb => hb)).mono ?_
  rintro e w1 ⟨A, rfl, hS, hb⟩
  have H1 : Hid (AQ w w1 A [bs [0, 0], bs [0, 0], bs [0, 0]]) := Lib.hid ⟨by rw [show [bs [0, 0], bs [0, 0], bs [0, 0]] = List.replicate 3 (zeros 2) by kernel_rfl]; exact hS, hb⟩
  clear hS hb
  go_wp2_with fail
  refine (key 2 w1 (by omega)).mono ?_
  rintro e w2 ⟨rfl, hk, hb⟩
  have H2 := Lib.hid (H1.out.new hb)
  have K2 := Lib.hid hk
  clear hk hb H1
  go_wp2_with fail
  refine (lookup_ok H2.out.1 _ _ _ _ _ _ K2.out 2 (sumK_small 2 (by omega)) (by simp)).mono ?_
  rintro e w3 ⟨rfl, hb⟩
  have H3 := Lib.hid (H2.out.new hb)
  clear hb H2 K2
  go_wp2_with fail
  refine (key 3 w3 (by omega)).mono ?_
  rintro e w4 ⟨rfl, hk, hb⟩
  have H4 := Lib.hid (H3.out.new hb)
  have K4 := Lib.hid hk
  clear hk hb H3
  go_wp2_with fail
  refine (lookup_none H4.out.1 _ _ _ _ _ _ K4.out (.inr (by rw [sumK_small 3 (by omega)]; decide))).mono ?_
  rintro e w5 ⟨rfl, hb⟩
  have H5 := Lib.hid (H4.out.new hb)
  clear hb H4 K4
  go_wp2_with fail
  refine (key 1 w5 (by omega)).mono ?_
  rintro e w6 ⟨rfl, hk, hb⟩
  have H6 := Lib.hid (H5.out.new hb)
  have K6 := Lib.hid hk
  clear hk hb H5
  go_wp2_with fail
  refine (update_ok (H6.out.new ((But.refl [] w6).alloc _)).1 _ _ _ _ _ _ (K6.out.but ((But.refl [] w6).alloc _)) rfl (by decide) (by decide) 1 (sumK_small 1 (by omega)) (by simp) (xs := bs [97, 98]) (sees_new w6 #[.int .u8 97, .int .u8 98] _ _ 2 2 rfl (Nat.le_refl _)) rfl (bs_bytes _)).mono ?_
  rintro e w7 ⟨rfl, hS, g, hg, hb⟩
  have H7 : Hid (AQ w w7 A [bs [0, 0], bs [97, 98], bs [0, 0]]) := Lib.hid ((H6.out.new ((But.refl [] w6).alloc _)).turn hS hg hb)
  clear hS hg hb H6 K6
  go_wp2_with fail
  refine (value_ok H7.out.1 1 (bs [97, 98]) rfl).mono ?_
  rintro e w8 ⟨a8, c8, rfl, ho, hn, hb⟩
  have H8 := Lib.hid (H7.out.new hb)
  have S8 : Hid (ArrS w8 (fun b => w.heap.size ≤ b ∧ b < w7.heap.size) A 2 [bs [0, 0], bs [97, 98], bs [0, 0]]) := Lib.hid ((H7.out.1.also (ok' := fun b => w.heap.size ≤ b ∧ b < w7.heap.size) (fun b hb hk => ⟨hk, hb⟩)).keep hb (by simp))
  have O8 := Lib.hid ho
  have N8 := Lib.hid hn
  clear ho hn hb
  go_wp2_with fail
  refine (set_ok (S8.out.keep ((But.refl [] w8).alloc _) (by simp)) 1 (bs [97, 98]) rfl 1 _ 1 1 (by omega) (xs := bs [99]) (sees_new w8 #[.int .u8 99] _ _ 1 1 rfl (Nat.le_refl _)) rfl (bs_bytes _)).mono ?_
  rintro e w9 ⟨rfl, hS, g, hg, hb⟩
  have H9 : Hid (AQ w w9 A [bs [0, 0], bs [97, 99], bs [0, 0]]) := Lib.hid ((H8.out.new ((But.refl [] w8).alloc _)).turn (hS.also (fun b _ h => h.1)) hg.1 hb)
  have O9 : Hid (OwnQ w9 5 (.slice a8 2 c8) (bs [97, 98])) := Lib.hid ((O8.out.but ((But.refl [] w8).alloc _) (by simp)).but hb (fun b hb' hm => by
    have h1 := N8.out b hb'
    have h2 := hg.2
    simp only [List.mem_singleton] at hm
    omega))
  clear hS hg hb H8 O8 N8 S8
  go_wp2_with fail
  refine (value_ok H9.out.1 1 (bs [97, 99]) rfl).mono ?_
  rintro e w10 ⟨a10, c10, rfl, ho, hn, hb⟩
  have H10 := Lib.hid (H9.out.new hb)
  have hcv1 : (convert 36 9 (.slice a8 2 c8)).run Tryz.prog w10 = .ok (.string { data := #[97, 98] }) w10 := convA (O9.out.but hb (by simp))
  have hcv2 : (convert 36 9 (.slice a10 2 c10)).run Tryz.prog w10 = .ok (.string { data := #[97, 99] }) w10 := convA ho
  clear ho hn hb H9 O9
  go_wp2_with fail
  refine (key 1 w10 (by omega)).mono ?_
  rintro e w11 ⟨rfl, hk, hb⟩
  have H11 := Lib.hid (H10.out.new hb)
  have K11 := Lib.hid hk
  clear hk hb H10 hcv1 hcv2
  go_wp2_with fail
  refine (update_there (H11.out.new ((But.refl [] w11).alloc _)).1 _ _ _ _ _ _ (K11.out.but ((But.refl [] w11).alloc _)) rfl 1 (sumK_small 1 (by omega)) (by simp)).mono ?_
  rintro e w12 ⟨rfl, hb⟩
  have H12 := Lib.hid ((H11.out.new ((But.refl [] w11).alloc _)).new hb)
  clear hb H11 K11
  go_wp2_with fail
  refine (key 1 w12 (by omega)).mono ?_
  rintro e w13 ⟨rfl, hk, hb⟩
  have H13 := Lib.hid (H12.out.new hb)
  clear hk hb H12
  go_wp2_with fail
  refine (delete_all H13.out.1 _).mono ?_
  rintro e w14 ⟨rfl, hb⟩
  have H14 := Lib.hid (H13.out.new hb)
  clear hb H13
  go_wp2_with fail
  go_ret
  exact ⟨rfl, H14.out.2⟩
end Go.Proofs.YtkgoblpddjpcnaaGreat.M
