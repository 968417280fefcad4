/-
  lru: the chapter's example holds.
-/
import Derived.Test.YtifgfnifadmoaaaLruQ
import Derived.Test.YtifgfnifadmoaaaStr
import Derived.Lib.SlBytesConst
namespace Go.Proofs.Ytifgfnifadmoaaa.M
open Go.RowKit
set_option linter.unusedVariables false
set_option linter.unusedSectionVars false
set_option linter.unusedSimpArgs false
theorem byteL1 (n : Int) (h : 0 ≤ n ∧ n ≤ 255) : ByteL [n] := fun x hx => by
  obtain rfl := by simpa using hx
  exact h
theorem seesU (w : World) (n : Int) (t : TypeId) (fr : Nat × Nat) (c : Nat) (hc : 1 ≤ c) : Sees (w.alloc (.cells #[.int .u8 n] t fr)) (.slice (some ⟨w.heap.size, 0, none⟩) ([n] : List Int).length c) (u8s [n]) := sees_new w #[.int .u8 n] t fr 1 c rfl hc
/-- One byte is laid, and looked up. -/
theorem LB.lookup1 {w wx : World} {P N : Nat} {A : LSt} {rows : List (List Int)} (h : LB w wx P 1 1 N A rows) (n : Int) (hn : 0 ≤ n ∧ n ≤ 255) (t : TypeId) (fr : Nat × Nat) (x : Int × Int) (A' : LSt) (hx : lookA 1 A [n] = (x.1.toNat, x.2, A')) (h0 : 0 ≤ x.1) :
    Calls Try.prog 11 #[.pointer (some ⟨P, 0, none⟩), .slice (some ⟨wx.heap.size, 0, none⟩) 1 1] (wx.alloc (.cells #[.int .u8 n] t fr)) fun r w' => r = .returned (.tuple #[.int .i64 x.1, .int .i64 x.2]) ∧ LB w w' P 1 1 N A' rows := by
  refine (h.lookup ((But.refl [] wx).alloc _) (some ⟨wx.heap.size, 0, none⟩) 1 (seesU wx n t fr 1 (Nat.le_refl _)) (byteL1 n hn)).mono ?_
  rintro r w' ⟨rfl, h1, -⟩
  rw [hx] at h1 ⊢
  refine ⟨?_, h1⟩
  dsimp only
  rw [show ((x.1.toNat : Nat) : Int) = x.1 by omega]
theorem LB.update1 {w wx : World} {P N : Nat} {A : LSt} {rows : List (List Int)} (h : LB w wx P 1 1 N A rows) (n m : Int) (hn : 0 ≤ n ∧ n ≤ 255) (hm : 0 ≤ m ∧ m ≤ 255) (t : TypeId) (fr : Nat × Nat) (t' : TypeId) (fr' : Nat × Nat) (A' : LSt) (hx : ∀ rows, (updA 1 1 N A rows [n] [m] 0).2.1 = A') :
    Calls Try.prog 10 #[.pointer (some ⟨P, 0, none⟩), .slice (some ⟨wx.heap.size, 0, none⟩) 1 1, .slice (some ⟨wx.heap.size + 1, 0, none⟩) 1 1, .int .u64 0] ((wx.alloc (.cells #[.int .u8 n] t fr)).alloc (.cells #[.int .u8 m] t' fr')) fun r w' => ∃ e rows', r = .returned (.int .i64 e) ∧ LB w w' P 1 1 N A' rows' := by
  have hz : (wx.alloc (.cells #[.int .u8 n] t fr)).heap.size = wx.heap.size + 1 := size_alloc _ _
  have hs2 := seesU (wx.alloc (.cells #[.int .u8 n] t fr)) m t' fr' 1 (Nat.le_refl _)
  rw [hz] at hs2
  have hw := h.2.size
  refine (h.update (((But.refl [] wx).alloc _).alloc _) (some ⟨wx.heap.size, 0, none⟩) 1 ((seesU wx n t fr 1 (Nat.le_refl _)).but ((But.refl [] _).alloc _) (by simp)) (byteL1 n hn) (some ⟨wx.heap.size + 1, 0, none⟩) 1 hs2 (byteL1 m hm) 0 (by omega) (fun _ b hb => ?_) (fun _ b hb => ?_) (by decide) (by decide)).mono ?_
  · cases hb
    rw [size_alloc, size_alloc]
    dsimp only
    exact ⟨by omega, .inr (Nat.le_refl _)⟩
  · cases hb
    rw [size_alloc, size_alloc]
    dsimp only
    exact ⟨by omega, .inr (by omega)⟩
  · rintro r w' ⟨rfl, h1, -⟩
    rw [hx] at h1
    exact ⟨_, _, rfl, h1⟩
theorem new112 (w : World) : Calls Try.prog 9 #[.agg #[.int .u8 3, .int .i64 1, .int .i64 1, .int .i64 2]] w fun e w' => ∃ P rows, e = .returned (.tuple #[.pointer (some ⟨P, 0, none⟩), .int .i64 0]) ∧ LB w w' P 1 1 2 [] rows := by
  refine (newLB 1 1 2 w (by decide)).mono ?_
  rintro e w' ⟨P, rfl, h⟩
  exact ⟨P, _, rfl, h⟩
set_option maxRecDepth 100000 in
set_option maxHeartbeats 2000000 in
theorem awake (w : World) : Calls Try.prog 7 #[] w fun e w' => e = .returned (.bool true) ∧ But [] w w' := by
  have kc := fun (w : World) (C : Array Value) (n c : Nat) => Lib.run_convert_bytes_const (P := Try.prog) w 25 5 C n c Try.underlying25 Try.underlying5
  go_enter Try.func7, Try.ntmps7
  go_wp2_with fail
  refine (new112 _).mono ?_
  rintro e w1 ⟨P, rows1, rfl, hS⟩
  have HS := Lib.hid hS
  clear hS
  go_wp2_with fail
  refine (HS.out.update1 97 1 (by omega) (by omega) _ _ _ _ [([97], 0)] (fun rows => rfl)).mono ?_
  rintro e w2 ⟨e2, rows2, rfl, hS⟩
  have HS2 := Lib.hid hS
  clear hS HS
  go_wp2_with fail
  refine (HS2.out.update1 98 2 (by omega) (by omega) _ _ _ _ [([97], 0), ([98], 1)] (fun rows => rfl)).mono ?_
  rintro e w3 ⟨e3, rows3, rfl, hS⟩
  have HS3 := Lib.hid hS
  clear hS HS2
  go_wp2_with fail
  refine (HS3.out.lookup1 97 (by omega) _ _ (0, 0) [([98], 1), ([97], 0)] rfl (by decide)).mono ?_
  rintro e w4 ⟨rfl, hS⟩
  have HS4 := Lib.hid hS
  clear hS HS3
  go_wp2_with fail
  refine (HS4.out.update1 99 3 (by omega) (by omega) _ _ _ _ [([97], 0), ([99], 1)] (fun rows => rfl)).mono ?_
  rintro e w5 ⟨e5, rows5, rfl, hS⟩
  have HS5 := Lib.hid hS
  clear hS HS4
  go_wp2_with fail
  refine (HS5.out.lookup1 98 (by omega) _ _ (0, 6) [([97], 0), ([99], 1)] rfl (by decide)).mono ?_
  rintro e w6 ⟨rfl, hS⟩
  have HS6 := Lib.hid hS
  clear hS HS5
  go_wp2_with fail
  refine (HS6.out.lookup1 99 (by omega) _ _ (1, 0) [([97], 0), ([99], 1)] rfl (by decide)).mono ?_
  rintro e w7 ⟨rfl, hS⟩
  have HS7 := Lib.hid hS
  clear hS HS6
  go_wp2_with fail
  go_ret
  exact ⟨rfl, HS7.out.2⟩
end Go.Proofs.Ytifgfnifadmoaaa.M
