/-
  The chapter's examples hold.
-/
import Derived.Test.YtdobileefcidjaaQueF
import Derived.Test.YtdobileefcidjaaStr
import Derived.Lib.SlBytesConst
import Derived.BigQuiet
namespace Go.Proofs.Ytdobileefcidjaa.M
open Go.RowKit Go.Shelf
set_option linter.unusedVariables false
set_option linter.unusedSectionVars false
set_option linter.unusedSimpArgs false
theorem bytes1 (n : Int) : ∀ u ∈ [Value.int .u8 n], ∃ n : Int, u = .int .u8 n := fun u hu => ⟨n, by simpa using hu⟩
theorem sees1 (w : World) (n : Int) (t : TypeId) (fr : Nat × Nat) : Sees (w.alloc (.cells #[.int .u8 n] t fr)) (.slice (some ⟨w.heap.size, 0, none⟩) 1 1) [Value.int .u8 n] := sees_new w #[.int .u8 n] t fr 1 1 rfl (Nat.le_refl _)
theorem new_top {L : List Nat} {w w' : World} (h : But [] w w') {w2 : World} (hb : But L w' w2) (hL : ∀ x ∈ L, w.heap.size ≤ x) : But [] w w2 := h.trans hb (fun x hx => .inr (hL x hx))
theorem conv1 {w : World} {a : Option Addr} {c : Nat} {n : Int} (h : Own w (.slice a 1 c) [.int .u8 n]) : (convert 36 9 (.slice a 1 c)).run Try.prog w = .ok (.string (strOfNums [n])) w := conv_str (xs := [n]) Try.underlying36 Try.underlying5 Try.underlying9 h.sees
def SQ (w : World) (wx : World) (Q : Nat) (st : Bool) (rows : List (List Value)) : Prop := QueueS wx (fun b => w.heap.size ≤ b) Q st 1 2 rows ∧ But [] w wx
theorem SQ.okAll {w wx : World} {Q : Nat} {st : Bool} {rows : List (List Value)} (h : SQ w wx Q st rows) : ∀ b, wx.heap.size ≤ b → w.heap.size ≤ b := fun b hb => Nat.le_trans h.2.size hb
theorem SQ.push {w wx : World} {Q : Nat} {st : Bool} {rows : List (List Value)} (h : SQ w wx Q st rows) (f : Int) (n : Int) (fr : Nat × Nat) (hf : f = 0 ∨ f = 2) (he : rows.length ≠ 2) (hl : rows.length ≤ 1000000) : Calls Try.prog 18 #[.pointer (some ⟨Q, 0, none⟩), .slice (some ⟨wx.heap.size, 0, none⟩) 1 1, .int .u64 f] (wx.alloc (.cells #[.int .u8 n] 5 fr)) fun e w' => e = .returned (.int .i64 0) ∧ SQ w w' Q st (rows ++ [[.int .u8 n]]) := by
  have hb1 := h.2.alloc (.cells #[.int .u8 n] 5 fr)
  refine (QueueS.pushMore (h.1.keep ((But.refl [] wx).alloc _) (by simp)) f (sees1 wx n _ fr) (bytes1 n) (by simp) rfl hf (by omega) hl (fun b hb => Nat.le_trans hb1.size hb)).mono ?_
  rintro e w' ⟨rfl, h1, L, hL, h2⟩
  exact ⟨rfl, h1, new_top hb1 h2 hL⟩
theorem SQ.full {w wx : World} {Q : Nat} {st : Bool} {rows : List (List Value)} (h : SQ w wx Q st rows) (n : Int) (fr : Nat × Nat) (he : rows.length = 2) : Calls Try.prog 18 #[.pointer (some ⟨Q, 0, none⟩), .slice (some ⟨wx.heap.size, 0, none⟩) 1 1, .int .u64 0] (wx.alloc (.cells #[.int .u8 n] 5 fr)) fun e w' => e = .returned (.int .i64 8) ∧ SQ w w' Q st rows := by
  have hb1 := h.2.alloc (.cells #[.int .u8 n] 5 fr)
  have h1 := h.1.keep ((But.refl [] wx).alloc (.cells #[.int .u8 n] 5 fr)) (by simp)
  refine (h1.pushFull (some ⟨wx.heap.size, 0, none⟩) 1 1 rfl (by omega)).mono ?_
  rintro e w' ⟨rfl, h2⟩
  exact ⟨rfl, h1.keep h2 (by simp), hb1.trans h2 (by simp)⟩
theorem SQ.there {w wx : World} {Q : Nat} {st : Bool} {rows : List (List Value)} (h : SQ w wx Q st rows) (n : Int) (fr : Nat × Nat) (he : rows.length = 2) : Calls Try.prog 18 #[.pointer (some ⟨Q, 0, none⟩), .slice (some ⟨wx.heap.size, 0, none⟩) 1 1, .int .u64 2] (wx.alloc (.cells #[.int .u8 n] 5 fr)) fun e w' => e = .returned (.int .i64 0) ∧ SQ w w' Q st (rows.eraseIdx 0 ++ [[.int .u8 n]]) := by
  have hb1 := h.2.alloc (.cells #[.int .u8 n] 5 fr)
  have hQ : Q < wx.heap.size := by obtain ⟨_, _, _, _, _, _, h1, _⟩ := h.1; exact lt_of h1
  refine (QueueS.pushThere (h.1.keep ((But.refl [] wx).alloc _) (by simp)) (sees1 wx n _ fr) (fun b hb => by simp [Value.ownBlock] at hb; omega) (bytes1 n) (by simp) rfl (by omega) (by omega) (by omega) (fun b hb => Nat.le_trans hb1.size hb)).mono ?_
  rintro e w' ⟨rfl, h1, L, hL, h2⟩
  exact ⟨rfl, h1, new_top hb1 h2 hL⟩
theorem SQ.pop {w wx : World} {Q : Nat} {st : Bool} {rows : List (List Value)} (h : SQ w wx Q st rows) (j : Nat) (n : Int) (hr : rows[nextAt st rows.length]? = some [.int .u8 n]) (hj : j = nextAt st rows.length) (hl : rows.length ≤ 1000000) : Calls Try.prog 13 #[.pointer (some ⟨Q, 0, none⟩)] wx fun e w' => ∃ a c, e = .returned (.tuple #[.slice a 1 c, .int .i64 0]) ∧ Own w' (.slice a 1 c) [.int .u8 n] ∧ SQ w w' Q st (rows.eraseIdx j) ∧ But [Q] wx w' := by
  refine (h.1.pop j _ hr hj hl (bytes1 n) (by simp) h.okAll).mono ?_
  rintro e w' ⟨v, rfl, ho, hn, h1, h2⟩
  obtain ⟨a, c, rfl⟩ := own_form2 ho
  exact ⟨a, c, rfl, ho, ⟨h1, new_top h.2 h2 (fun x hx => by simp at hx; subst hx; exact h.1.okQ)⟩, h2⟩
theorem SQ.popNone {w wx : World} {Q : Nat} {st : Bool} (h : SQ w wx Q st []) : Calls Try.prog 13 #[.pointer (some ⟨Q, 0, none⟩)] wx fun e w' => e = .returned (.tuple #[.slice none 0 0, .int .i64 6]) ∧ wx = w' := h.1.popNone
/-- A popped value stays when the queue changes. -/
theorem own_off {w wx w' : World} {Q : Nat} {st : Bool} {rows : List (List Value)} (h : SQ w wx Q st rows) (hb : But [Q] wx w') {v : Value} {r : List Value} (ho : Own wx v r) : Own w' v r := ho.but hb fun k hk hm => by
  obtain ⟨_, _, _, _, _, _, h1, _⟩ := h.1
  simp only [List.mem_singleton] at hm
  subst hm
  obtain ⟨cur, hg⟩ := ho.que.tag _ hk
  rw [h1] at hg
  simp only [Option.some.injEq, Obj.cells.injEq] at hg
  exact absurd hg.2.1 (by decide)
set_option maxRecDepth 100000 in
set_option maxHeartbeats 4000000 in
theorem awake (w : World) : Calls Try.prog 8 #[] w fun e w' => e = .returned (.bool true) ∧ But [] w w' := by
  have kc := fun (w : World) (C : Array Value) (n c : Nat) => Lib.run_convert_bytes_const (P := Try.prog) w 36 5 C n c Try.underlying36 Try.underlying5
  obtain ⟨W0, hW0⟩ : ∃ W0, W0 = (w.alloc (.cells #[.int .u8 5, .int .u8 6] 22)).alloc (.cells #[.string { data := #[98, 99] }, .string { data := #[99, 98] }] 9) := ⟨_, rfl⟩
  have hb0 : But [] w W0 := by rw [hW0]; exact ((But.refl [] w).alloc _).alloc _
  have hk : W0.heap[w.heap.size]? = some (.cells #[.int .u8 5, .int .u8 6] 22) := by rw [hW0]; exact al_keep (al_at w _) _
  have hs : W0.heap[w.heap.size + 1]? = some (.cells #[.string { data := #[98, 99] }, .string { data := #[99, 98] }] 9) := by rw [hW0]; exact al_eq _ _ _ (by rw [size_alloc])
  have HW := Lib.hid hW0
  have HK := Lib.hid hk
  have HST := Lib.hid hs
  have HB0 := Lib.hid hb0
  clear hW0 hk hs hb0
  go_enter Try.func8, Try.ntmps8
  go_wp2_with fail
  rw [← HW.out]
  clear HW
  refine wp_loop_rounds 3 ?_
  rw [rounds_succ]
  have ck : W0.cell? ⟨w.heap.size, 0, none⟩ = some (.int .u8 5) := cl_of HK.out 0
  go_wp2_with fail
  refine (newQueue 1 2 _ rfl (fun b => W0.heap.size ≤ b) (fun b hb => hb)).mono ?_
  rintro e w1 ⟨Q, rfl, hS, hb⟩
  have HS : Hid (SQ W0 w1 Q false []) := Lib.hid ⟨hS, hb⟩
  clear hS hb ck
  go_wp2_with fail
  refine (SQ.push HS.out 0 97 _ (.inl rfl) (by simp) (by simp)).mono ?_
  rintro e w2 ⟨rfl, hS⟩
  have HS2 : Hid (SQ W0 w2 Q false [[.int .u8 97]]) := Lib.hid hS
  clear hS HS
  go_wp2_with fail
  refine (SQ.push HS2.out 0 98 _ (.inl rfl) (by simp) (by simp)).mono ?_
  rintro e w3 ⟨rfl, hS⟩
  have HS3 : Hid (SQ W0 w3 Q false [[.int .u8 97], [.int .u8 98]]) := Lib.hid hS
  clear hS HS2
  go_wp2_with fail
  refine (SQ.full HS3.out 99 _ rfl).mono ?_
  rintro e w4 ⟨rfl, hS⟩
  have HS4 := Lib.hid hS
  clear hS HS3
  go_wp2_with fail
  refine (SQ.there HS4.out 99 _ rfl).mono ?_
  rintro e w5 ⟨rfl, hS⟩
  have HS5 : Hid (SQ W0 w5 Q false [[.int .u8 98], [.int .u8 99]]) := Lib.hid hS
  clear hS HS4
  go_wp2_with fail
  refine (SQ.pop HS5.out 0 98 rfl rfl (by simp)).mono ?_
  rintro e w6 ⟨a1, c1, rfl, ho, hS, hb⟩
  have HS6 : Hid (SQ W0 w6 Q false [[.int .u8 99]]) := Lib.hid hS
  have HO6 := Lib.hid ho
  clear hS HS5 ho hb
  go_wp2_with fail
  refine (SQ.pop HS6.out 0 99 rfl rfl (by simp)).mono ?_
  rintro e w7 ⟨a2, c2, rfl, ho, hS, hb⟩
  have HS7 : Hid (SQ W0 w7 Q false []) := Lib.hid hS
  have hcv1 : ∀ n, (convert 36 9 (.slice a1 1 c1)).run Try.prog (w7.drewN n) = .ok (.string { data := #[98] }) (w7.drewN n) := fun n => conv1 ((own_off HS6.out hb HO6.out).but ((But.refl [] w7).drewN n) (by simp))
  have hcv2 : ∀ n, (convert 36 9 (.slice a2 1 c2)).run Try.prog (w7.drewN n) = .ok (.string { data := #[99] }) (w7.drewN n) := fun n => conv1 (ho.but ((But.refl [] w7).drewN n) (by simp))
  clear hS HS6 ho hb HO6
  go_wp2_with fail
  refine (SQ.popNone HS7.out).mono ?_
  rintro e w8 ⟨rfl, rfl⟩
  have hcat : (ByteArray.mk #[98] : ByteArray) ++ ByteArray.mk #[99] = ByteArray.mk #[98, 99] := rfl
  have ck2 : w7.cell? ⟨w.heap.size + 1, 0, none⟩ = some (.string { data := #[98, 99] }) := cell_but HS7.out.2 (cl_of HST.out 0 : W0.cell? ⟨w.heap.size + 1, 0, none⟩ = some (.string { data := #[98, 99] })) (by simp)
  go_wp2_with go_quiet (fail)
  go_wp2_with fail
  obtain ⟨W1, hW1⟩ : ∃ W1, W1 = w7.drewN nq := ⟨_, rfl⟩
  have HB1 : Hid (But [] W0 W1) := Lib.hid (by rw [hW1]; exact HS7.out.2.drewN _)
  rw [← hW1]
  clear HS7 hcv1 hcv2 hcat ck2 hW1
  rw [rounds_succ]
  have ck : W1.cell? ⟨w.heap.size, 1, none⟩ = some (.int .u8 6) := cell_but HB1.out (cl_of HK.out 1 : W0.cell? ⟨w.heap.size, 1, none⟩ = some (.int .u8 6)) (by simp)
  go_wp2_with fail
  refine (newStack 1 2 _ rfl (fun b => W1.heap.size ≤ b) (fun b hb => hb)).mono ?_
  rintro e w1 ⟨Q, rfl, hS, hb⟩
  have HS : Hid (SQ W1 w1 Q true []) := Lib.hid ⟨hS, hb⟩
  clear hS hb ck
  go_wp2_with fail
  refine (SQ.push HS.out 0 97 _ (.inl rfl) (by simp) (by simp)).mono ?_
  rintro e w2 ⟨rfl, hS⟩
  have HS2 : Hid (SQ W1 w2 Q true [[.int .u8 97]]) := Lib.hid hS
  clear hS HS
  go_wp2_with fail
  refine (SQ.push HS2.out 0 98 _ (.inl rfl) (by simp) (by simp)).mono ?_
  rintro e w3 ⟨rfl, hS⟩
  have HS3 : Hid (SQ W1 w3 Q true [[.int .u8 97], [.int .u8 98]]) := Lib.hid hS
  clear hS HS2
  go_wp2_with fail
  refine (SQ.full HS3.out 99 _ rfl).mono ?_
  rintro e w4 ⟨rfl, hS⟩
  have HS4 := Lib.hid hS
  clear hS HS3
  go_wp2_with fail
  refine (SQ.there HS4.out 99 _ rfl).mono ?_
  rintro e w5 ⟨rfl, hS⟩
  have HS5 : Hid (SQ W1 w5 Q true [[.int .u8 98], [.int .u8 99]]) := Lib.hid hS
  clear hS HS4
  go_wp2_with fail
  refine (SQ.pop HS5.out 1 99 rfl rfl (by simp)).mono ?_
  rintro e w6 ⟨a1, c1, rfl, ho, hS, hb⟩
  have HS6 : Hid (SQ W1 w6 Q true [[.int .u8 98]]) := Lib.hid hS
  have HO6 := Lib.hid ho
  clear hS HS5 ho hb
  go_wp2_with fail
  refine (SQ.pop HS6.out 0 98 rfl rfl (by simp)).mono ?_
  rintro e w7 ⟨a2, c2, rfl, ho, hS, hb⟩
  have HS7 : Hid (SQ W1 w7 Q true []) := Lib.hid hS
  have hcv1 : ∀ n, (convert 36 9 (.slice a1 1 c1)).run Try.prog (w7.drewN n) = .ok (.string { data := #[99] }) (w7.drewN n) := fun n => conv1 ((own_off HS6.out hb HO6.out).but ((But.refl [] w7).drewN n) (by simp))
  have hcv2 : ∀ n, (convert 36 9 (.slice a2 1 c2)).run Try.prog (w7.drewN n) = .ok (.string { data := #[98] }) (w7.drewN n) := fun n => conv1 (ho.but ((But.refl [] w7).drewN n) (by simp))
  clear hS HS6 ho hb HO6
  go_wp2_with fail
  refine (SQ.popNone HS7.out).mono ?_
  rintro e w8 ⟨rfl, rfl⟩
  have hcat : (ByteArray.mk #[99] : ByteArray) ++ ByteArray.mk #[98] = ByteArray.mk #[99, 98] := rfl
  have ck2 : w7.cell? ⟨w.heap.size + 1, 1, none⟩ = some (.string { data := #[99, 98] }) := cell_but (HB1.out.trans HS7.out.2 (by simp)) (cl_of HST.out 1 : W0.cell? ⟨w.heap.size + 1, 1, none⟩ = some (.string { data := #[99, 98] })) (by simp)
  go_wp2_with go_quiet (fail)
  go_wp2_with fail
  obtain ⟨W2, hW2⟩ : ∃ W2, W2 = w7.drewN nq := ⟨_, rfl⟩
  have HB2 : Hid (But [] W1 W2) := Lib.hid (by rw [hW2]; exact HS7.out.2.drewN _)
  rw [← hW2]
  clear HS7 hcv1 hcv2 hcat ck2 hW2
  rw [rounds_succ]
  go_wp2_with fail
  go_ret
  exact ⟨rfl, (HB0.out.trans HB1.out (by simp)).trans HB2.out (by simp)⟩
end Go.Proofs.Ytdobileefcidjaa.M
