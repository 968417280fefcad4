/-
  Lookup, Delete.
-/
import Derived.Test.YtkgoblpddjpcnaaGreatArr
import Derived.Deep.RegionWith
import Derived.Deep.DeepCutAuto
import Derived.BigQuiet
import Derived.StillTailTactics
namespace Go.Proofs.YtkgoblpddjpcnaaGreat.M
open Go.RowKit Go.Shelf
set_option linter.unusedVariables false
set_option linter.unusedSectionVars false
set_option linter.unusedSimpArgs false
set_option maxRecDepth 10000
attribute [local go_sem ↓] Go.wp_at_zero Go.wp_at_succ
theorem thrown_mono {P : Program} {k : FuncId} {args : Array Value} {w : World} {E : Int} {R R' : World → Prop} (h : Calls P k args w fun e w' => e = thrown E ∧ R w') (hr : ∀ w', R w' → R' w') : Calls P k args w fun e w' => e = thrown E ∧ R' w' := h.mono fun _ _ ⟨he, hR⟩ => ⟨he, hr _ hR⟩
theorem wp_region_tail9 {P : Program} {id : Nat} {Q : Exit → Act → World → Prop} {a : Act} {w : World} {l : List Oper} (n : Nat) (hm : P.follows .mixedOrders = true) (hB : Region.lexTailB .any l.toArray n = true)
    (h : wpStill P l.toArray w.drew (fun a' => wpList P l.toArray Q (l.drop n) a' w.drew) (l.take n) a) : (Code.region id l.toArray true).wp P Q a w := wp_region_still_tail n hm hB h
/-- A key, as it comes in. -/
structure KeyIn (w : World) (ad : Addr) (k0 k1 k2 k3 : Int) : Prop where
  at' : ∀ (j : Nat) (b : Int), [k0, k1, k2, k3][j]? = some b → w.cell? (ad.add j) = some (.int .u8 b)
theorem KeyIn.but {w w' : World} {ad : Addr} {k0 k1 k2 k3 : Int} (h : KeyIn w ad k0 k1 k2 k3) (hb : But [] w w') : KeyIn w' ad k0 k1 k2 k3 := ⟨fun j b hj => cell_but hb (h.at' j b hj) (by simp)⟩
section
variable {w : World} {ok : Nat → Prop} {A size : Nat} {rows : List (List Value)} {P Q : Nat}
theorem lookup1_off (v s : Value) (hv : OffA w v) (cP : w.cell? ⟨P, 0, none⟩ = some v) : Calls Tryz.prog 38 #[.pointer (some ⟨P, 0, none⟩), s] w fun e w' => e = thrown 1 ∧ w = w' := by
  have hvp : ∃ p, v = .pointer p := by rcases hv with h | ⟨_, _, h, _⟩ <;> exact ⟨_, h⟩
  obtain ⟨p, rfl⟩ := hvp
  go_enter Tryz.func38, Tryz.ntmps38
  go_wp2_with (go_at_call 34; refine (known_off _ _ hv).mono ?_; rintro e w1 ⟨he, rfl⟩; dsimp only [thrown] at he; subst he)
  exact ⟨rfl, rfl, rfl⟩
theorem lookup1_bad (h : ArrS w ok A size rows) (a : Option Addr) (n c : Nat) (hn : n ≠ 4) (cP : w.cell? ⟨P, 0, none⟩ = some (.pointer (some ⟨A, 0, none⟩))) (cQ : w.cell? ⟨Q, 0, none⟩ = some (.slice a n c)) : Calls Tryz.prog 38 #[.pointer (some ⟨P, 0, none⟩), .pointer (some ⟨Q, 0, none⟩)] w fun e w' => e = thrown 2 ∧ w = w' := by
  have H := Lib.hid h
  clear h
  go_enter Tryz.func38, Tryz.ntmps38
  go_wp2_with (first | (go_at_call 34; refine H.out.known.mono ?_; rintro e w1 ⟨rfl, rfl⟩) | (go_at_call 39; refine (place_no _ _ _ _ hn).mono ?_; rintro e w1 ⟨he, rfl⟩; dsimp only [thrown] at he; subst he))
  exact ⟨rfl, rfl, rfl⟩
theorem lookup1_none (h : ArrS w ok A size rows) (ad : Addr) (c : Nat) (k0 k1 k2 k3 : Int) (hk : KeyIn w ad k0 k1 k2 k3) (hn : sumK (keyItems k0 k1 k2 k3) < 0 ∨ (rows.length : Int) ≤ sumK (keyItems k0 k1 k2 k3)) (cP : w.cell? ⟨P, 0, none⟩ = some (.pointer (some ⟨A, 0, none⟩))) (cQ : w.cell? ⟨Q, 0, none⟩ = some (.slice (some ad) 4 c)) : Calls Tryz.prog 38 #[.pointer (some ⟨P, 0, none⟩), .pointer (some ⟨Q, 0, none⟩)] w fun e w' => e = thrown 6 ∧ But [] w w' := by
  have H := Lib.hid h
  obtain ⟨N, hN⟩ : ∃ N, N = sumK (keyItems k0 k1 k2 k3) := ⟨_, rfl⟩
  rw [← hN] at hn
  have HP : Hid (Calls Tryz.prog 39 #[.slice (some ad) 4 c] w fun e w' => e = .returned (.int .i64 N) ∧ But [] w w') := Lib.hid (by rw [hN]; exact place_yes ad c k0 k1 k2 k3 w hk.at')
  have HNN := Lib.hid hn
  clear h hN hn
  go_enter Tryz.func38, Tryz.ntmps38
  go_wp2_with (first | (go_at_call 34; refine H.out.known.mono ?_; rintro e w1 ⟨rfl, rfl⟩) | (go_at_call 39; refine HP.out.mono ?_; rintro e w1 ⟨rfl, hb⟩; have HB := Lib.hid hb; have cP1 := cell_but hb cP (by simp); clear hb) | (go_at_call 36; refine ((H.out.keep HB.out (by simp)).atNo _ HNN.out).mono ?_; rintro e w2 ⟨he, rfl⟩; dsimp only [thrown] at he; subst he))
  exact ⟨rfl, rfl, HB.out⟩
theorem lookup1_ok (h : ArrS w ok A size rows) (ad : Addr) (c : Nat) (k0 k1 k2 k3 : Int) (hk : KeyIn w ad k0 k1 k2 k3) (j : Nat) (hj : sumK (keyItems k0 k1 k2 k3) = j) (hjl : j < rows.length) (cP : w.cell? ⟨P, 0, none⟩ = some (.pointer (some ⟨A, 0, none⟩))) (cQ : w.cell? ⟨Q, 0, none⟩ = some (.slice (some ad) 4 c)) : Calls Tryz.prog 38 #[.pointer (some ⟨P, 0, none⟩), .pointer (some ⟨Q, 0, none⟩)] w fun e w' => e = .returned (.int .i64 j) ∧ But [] w w' := by
  have H := Lib.hid h
  obtain ⟨r, hr⟩ : ∃ r, rows[j]? = some r := ⟨_, List.getElem?_eq_getElem hjl⟩
  have HR := Lib.hid hr
  have HP : Hid (Calls Tryz.prog 39 #[.slice (some ad) 4 c] w fun e w' => e = .returned (.int .i64 j) ∧ But [] w w') := Lib.hid (by rw [← hj]; exact place_yes ad c k0 k1 k2 k3 w hk.at')
  clear h hj hjl hr
  go_enter Tryz.func38, Tryz.ntmps38
  go_wp2_with (first | (go_at_call 34; refine H.out.known.mono ?_; rintro e w1 ⟨rfl, rfl⟩) | (go_at_call 39; refine HP.out.mono ?_; rintro e w1 ⟨rfl, hb⟩; have HB := Lib.hid hb; have cP1 := cell_but hb cP (by simp); clear hb) | (go_at_call 36; refine ((H.out.keep HB.out (by simp)).at j r HR.out).mono ?_; rintro e w2 ⟨av, cv, rfl, -, -, rfl⟩))
  go_ret
  exact ⟨rfl, HB.out⟩
end
section
variable {w : World} {ok : Nat → Prop} {A size : Nat} {rows : List (List Value)} {P Q : Nat}
theorem delete1_off (p : Option Addr) (hv : OffA w (.pointer p)) (cP : w.cell? ⟨P, 0, none⟩ = some (.pointer p)) : Calls Tryz.prog 43 #[.pointer (some ⟨P, 0, none⟩)] w fun e w' => e = thrown 1 ∧ w = w' := by
  go_enter Tryz.func43, Tryz.ntmps43
  go_wp2_with (go_at_call 34; refine (known_off _ _ hv).mono ?_; rintro e w1 ⟨he, rfl⟩; dsimp only [thrown] at he; subst he)
  exact ⟨rfl, rfl, rfl⟩
theorem delete1 (h : ArrS w ok A size rows) (cP : w.cell? ⟨P, 0, none⟩ = some (.pointer (some ⟨A, 0, none⟩))) : Calls Tryz.prog 43 #[.pointer (some ⟨P, 0, none⟩)] w fun e w' => e = thrown 9 ∧ w = w' := by
  have H := Lib.hid h
  clear h
  go_enter Tryz.func43, Tryz.ntmps43
  go_wp2_with (go_at_call 34; refine H.out.known.mono ?_; rintro e w1 ⟨rfl, rfl⟩)
  exact ⟨rfl, rfl, rfl⟩
theorem value1_off (p : Option Addr) (s : Value) (hv : OffA w (.pointer p)) (cP : w.cell? ⟨P, 0, none⟩ = some (.pointer p)) : Calls Tryz.prog 33 #[.pointer (some ⟨P, 0, none⟩), s] w fun e w' => e = thrown 1 ∧ w = w' := by
  go_enter Tryz.func33, Tryz.ntmps33
  go_wp2_with (go_at_call 34; refine (known_off _ _ hv).mono ?_; rintro e w1 ⟨he, rfl⟩; dsimp only [thrown] at he; subst he)
  exact ⟨rfl, rfl, rfl⟩
theorem value1_none (h : ArrS w ok A size rows) (n : Int) (hn : n < 0 ∨ (rows.length : Int) ≤ n) (cP : w.cell? ⟨P, 0, none⟩ = some (.pointer (some ⟨A, 0, none⟩))) (cQ : w.cell? ⟨Q, 0, none⟩ = some (.int .i64 n)) : Calls Tryz.prog 33 #[.pointer (some ⟨P, 0, none⟩), .pointer (some ⟨Q, 0, none⟩)] w fun e w' => e = thrown 6 ∧ But [] w w' := by
  have H := Lib.hid h
  have HN := Lib.hid hn
  clear h hn
  go_enter Tryz.func33, Tryz.ntmps33
  go_wp2_with (go_at_call 34; refine H.out.known.mono ?_; rintro e w1 ⟨rfl, rfl⟩)
  refine wp_region_tail9 4 (by kernel_rfl) (by kernel_rfl) ?_
  simp only [List.take_succ_cons, List.take_zero, List.drop_succ_cons, List.drop_zero]
  repeat still_step
  refine wpStill_nil ?_
  go_wp2_with (go_at_call 36; refine ((H.out.keep ((But.refl [] _).drew) (by simp)).atNo _ HN.out).mono ?_; rintro e w2 ⟨he, rfl⟩; dsimp only [thrown] at he; subst he)
  exact ⟨rfl, rfl, (But.refl [] w).drew⟩
set_option maxHeartbeats 1000000 in
theorem value1_ok (h : ArrS w ok A size rows) (j : Nat) (r : List Value) (hr : rows[j]? = some r) (cP : w.cell? ⟨P, 0, none⟩ = some (.pointer (some ⟨A, 0, none⟩))) (cQ : w.cell? ⟨Q, 0, none⟩ = some (.int .i64 j)) : Calls Tryz.prog 33 #[.pointer (some ⟨P, 0, none⟩), .pointer (some ⟨Q, 0, none⟩)] w fun e w' => ∃ a c, e = .returned (.slice a size c) ∧ OwnQ w' 5 (.slice a size c) r ∧ (∀ b, (Value.slice a size c).ownBlock = some b → w.heap.size ≤ b) ∧ But [] w w' := by
  have H := Lib.hid h
  have HR := Lib.hid hr
  have hsz : size ≤ 1024 := h.pos.2
  obtain ⟨hrb, hrl⟩ := h.each r (List.mem_of_getElem? hr)
  have HRB : Hid (IsBytes r) := Lib.hid hrb
  have HRL := Lib.hid hrl
  clear h hr hrb hrl
  go_enter Tryz.func33, Tryz.ntmps33
  go_wp2_with (go_at_call 34; refine H.out.known.mono ?_; rintro e w1 ⟨rfl, rfl⟩)
  go_region_held3 (fun w' => w'.cell? ⟨P, 0, none⟩ = some (.pointer (some ⟨A, 0, none⟩)) ∧ w'.cell? ⟨Q, 0, none⟩ = some (.int .i64 j)) (first | assumption | go_keep)
    (first | (go_at_call 36; refine ((H.out.keep ((But.refl [] _).drew) (by simp)).at j r HR.out).mono ?_; rintro e w2 ⟨av, cv, rfl, hov, -, rfl⟩; have HOV := Lib.hid hov; clear hov) | (go_at_call 35; refine (clone _ r _ HOV.out.sees HRB.out.one (by have := HRL.out; omega)).mono ?_; rintro e w2 ⟨v2, rfl, ho2, hn2, hb2⟩; replace hb2 : But [] w w2 := ((But.refl [] w).drew).trans hb2 (by simp); obtain ⟨av2, cv2, hf2⟩ := ho2.que.form; rw [HRL.out] at hf2; subst hf2; have HO2 := Lib.hid ho2; have HN2 := Lib.hid hn2; have HB2 := Lib.hid hb2; have e2 : w2.cell? ⟨P, 0, none⟩ = some (.pointer (some ⟨A, 0, none⟩)) ∧ w2.cell? ⟨Q, 0, none⟩ = some (.int .i64 j) := ⟨cell_but hb2 cP (by simp), cell_but hb2 cQ (by simp)⟩; clear ho2 hn2 hb2))
  go_wp2_with fail
  go_ret
  exact ⟨_, _, rfl, HO2.out.que, HN2.out, HB2.out⟩
end
set_option maxHeartbeats 1000000 in
theorem lookup_off {w : World} (p : Option Addr) (hv : OffA w (.pointer p)) (a : Option Addr) (n c : Nat) : Calls Tryz.prog 15 #[.pointer p, .slice a n c] w fun e w' => e = .returned (.tuple #[.int .i64 0, .int .i64 1]) ∧ But [] w w' := by
  have H := Lib.hid hv
  clear hv
  have hmf : ∀ (fn : Fn) (first cap : Array Value) (w : World), (Instr.makeFunc fn first cap).run Tryz.prog w = .ok (.func fn first cap) w := fun _ _ _ _ => rfl
  obtain ⟨w1, hw1⟩ : ∃ w1, w1 = ((w.alloc (.cells #[.pointer p] 28)).alloc (.cells #[.slice a n c] 36)) := ⟨_, rfl⟩
  have hb1 : But [] w w1 := by rw [hw1]; exact ((But.refl [] w).alloc _).alloc _
  have g0 : w1.heap[w.heap.size]? = some (.cells #[.pointer p] 28) := by rw [hw1]; exact al_keep (al_at w _) _
  have g1 : w1.heap[w.heap.size + 1]? = some (.cells #[.slice a n c] 36) := by rw [hw1]; exact al_eq _ _ _ (by rw [size_alloc])
  have HW := Lib.hid hw1
  have HB1 := Lib.hid hb1
  have G0 := Lib.hid g0
  have G1 := Lib.hid g1
  clear hw1 hb1 g0 g1
  go_enter Tryz.func15, Tryz.ntmps15
  go_wp2_with fail
  rw [← HW.out]
  refine (triedIE 38 #[.pointer (some ⟨w.heap.size, 0, none⟩), .pointer (some ⟨w.heap.size + 1, 0, none⟩)] w1 (fun args w => by kernel_rfl) 1 (fun w3 => But [] w1 w3) (fun w2 hb2 hz2 => ?_)).mono ?_
  · refine (lookup1_off _ _ ((H.out.but HB1.out).but hb2) (cl_of (hb2.heap G0.out (by simp)) 0)).mono ?_
    rintro e w3 ⟨rfl, rfl⟩
    exact ⟨rfl, hb2, [], But.refl _ _, by simp, by simp⟩
  rintro e w' ⟨rfl, w3, hR3, hb4⟩
  have HB := Lib.hid ((HB1.out.trans hR3 (by simp)).trans hb4 (fun x hx => .inr (by have := HB1.out.size; simp at hx; omega)))
  clear hR3 hb4
  go_wp2_with fail
  go_ret2
  exact ⟨rfl, HB.out⟩
set_option maxHeartbeats 1000000 in
theorem lookup_bad {w : World} {ok : Nat → Prop} {A size : Nat} {rows : List (List Value)} (h : ArrS w ok A size rows) (a : Option Addr) (n c : Nat) (hn : n ≠ 4) : Calls Tryz.prog 15 #[.pointer (some ⟨A, 0, none⟩), .slice a n c] w fun e w' => e = .returned (.tuple #[.int .i64 0, .int .i64 2]) ∧ But [] w w' := by
  have H := Lib.hid h
  clear h
  have hmf : ∀ (fn : Fn) (first cap : Array Value) (w : World), (Instr.makeFunc fn first cap).run Tryz.prog w = .ok (.func fn first cap) w := fun _ _ _ _ => rfl
  obtain ⟨w1, hw1⟩ : ∃ w1, w1 = ((w.alloc (.cells #[.pointer (some ⟨A, 0, none⟩)] 28)).alloc (.cells #[.slice a n c] 36)) := ⟨_, rfl⟩
  have hb1 : But [] w w1 := by rw [hw1]; exact ((But.refl [] w).alloc _).alloc _
  have g0 : w1.heap[w.heap.size]? = some (.cells #[.pointer (some ⟨A, 0, none⟩)] 28) := by rw [hw1]; exact al_keep (al_at w _) _
  have g1 : w1.heap[w.heap.size + 1]? = some (.cells #[.slice a n c] 36) := by rw [hw1]; exact al_eq _ _ _ (by rw [size_alloc])
  have HW := Lib.hid hw1
  have HB1 := Lib.hid hb1
  have G0 := Lib.hid g0
  have G1 := Lib.hid g1
  clear hw1 hb1 g0 g1
  go_enter Tryz.func15, Tryz.ntmps15
  go_wp2_with fail
  rw [← HW.out]
  refine (triedIE 38 #[.pointer (some ⟨w.heap.size, 0, none⟩), .pointer (some ⟨w.heap.size + 1, 0, none⟩)] w1 (fun args w => by kernel_rfl) 2 (fun w3 => But [] w1 w3) (fun w2 hb2 hz2 => ?_)).mono ?_
  · refine (lookup1_bad ((H.out.keep HB1.out (by simp)).keep hb2 (by simp)) _ _ _ hn (cl_of (hb2.heap G0.out (by simp)) 0) (cl_of (hb2.heap G1.out (by simp)) 0)).mono ?_
    rintro e w3 ⟨rfl, rfl⟩
    exact ⟨rfl, hb2, [], But.refl _ _, by simp, by simp⟩
  rintro e w' ⟨rfl, w3, hR3, hb4⟩
  have HB := Lib.hid ((HB1.out.trans hR3 (by simp)).trans hb4 (fun x hx => .inr (by have := HB1.out.size; simp at hx; omega)))
  clear hR3 hb4
  go_wp2_with fail
  go_ret2
  exact ⟨rfl, HB.out⟩
set_option maxHeartbeats 1000000 in
theorem lookup_none {w : World} {ok : Nat → Prop} {A size : Nat} {rows : List (List Value)} (h : ArrS w ok A size rows) (ad : Addr) (c : Nat) (k0 k1 k2 k3 : Int) (hk : KeyIn w ad k0 k1 k2 k3) (hn : sumK (keyItems k0 k1 k2 k3) < 0 ∨ (rows.length : Int) ≤ sumK (keyItems k0 k1 k2 k3)) : Calls Tryz.prog 15 #[.pointer (some ⟨A, 0, none⟩), .slice (some ad) 4 c] w fun e w' => e = .returned (.tuple #[.int .i64 0, .int .i64 6]) ∧ But [] w w' := by
  have H := Lib.hid h
  have HKEY := Lib.hid hk
  clear h hk
  have HN := Lib.hid hn
  clear hn
  have hmf : ∀ (fn : Fn) (first cap : Array Value) (w : World), (Instr.makeFunc fn first cap).run Tryz.prog w = .ok (.func fn first cap) w := fun _ _ _ _ => rfl
  obtain ⟨w1, hw1⟩ : ∃ w1, w1 = ((w.alloc (.cells #[.pointer (some ⟨A, 0, none⟩)] 28)).alloc (.cells #[.slice (some ad) 4 c] 36)) := ⟨_, rfl⟩
  have hb1 : But [] w w1 := by rw [hw1]; exact ((But.refl [] w).alloc _).alloc _
  have g0 : w1.heap[w.heap.size]? = some (.cells #[.pointer (some ⟨A, 0, none⟩)] 28) := by rw [hw1]; exact al_keep (al_at w _) _
  have g1 : w1.heap[w.heap.size + 1]? = some (.cells #[.slice (some ad) 4 c] 36) := by rw [hw1]; exact al_eq _ _ _ (by rw [size_alloc])
  have HW := Lib.hid hw1
  have HB1 := Lib.hid hb1
  have G0 := Lib.hid g0
  have G1 := Lib.hid g1
  clear hw1 hb1 g0 g1
  go_enter Tryz.func15, Tryz.ntmps15
  go_wp2_with fail
  rw [← HW.out]
  refine (triedIE 38 #[.pointer (some ⟨w.heap.size, 0, none⟩), .pointer (some ⟨w.heap.size + 1, 0, none⟩)] w1 (fun args w => by kernel_rfl) 6 (fun w3 => But [] w1 w3) (fun w2 hb2 hz2 => ?_)).mono ?_
  · refine (lookup1_none ((H.out.keep HB1.out (by simp)).keep hb2 (by simp)) _ _ _ _ _ _ ((HKEY.out.but HB1.out).but hb2) HN.out (cl_of (hb2.heap G0.out (by simp)) 0) (cl_of (hb2.heap G1.out (by simp)) 0)).mono ?_
    rintro e w3 ⟨rfl, hb3⟩
    exact ⟨rfl, hb2.trans hb3 (by simp), [], hb3, by simp, by simp⟩
  rintro e w' ⟨rfl, w3, hR3, hb4⟩
  have HB := Lib.hid ((HB1.out.trans hR3 (by simp)).trans hb4 (fun x hx => .inr (by have := HB1.out.size; simp at hx; omega)))
  clear hR3 hb4
  go_wp2_with fail
  go_ret2
  exact ⟨rfl, HB.out⟩
set_option maxHeartbeats 1000000 in
theorem lookup_ok {w : World} {ok : Nat → Prop} {A size : Nat} {rows : List (List Value)} (h : ArrS w ok A size rows) (ad : Addr) (c : Nat) (k0 k1 k2 k3 : Int) (hk : KeyIn w ad k0 k1 k2 k3) (j : Nat) (hj : sumK (keyItems k0 k1 k2 k3) = j) (hjl : j < rows.length) : Calls Tryz.prog 15 #[.pointer (some ⟨A, 0, none⟩), .slice (some ad) 4 c] w fun e w' => e = .returned (.tuple #[.int .i64 j, .int .i64 0]) ∧ But [] w w' := by
  have H := Lib.hid h
  have HKEY := Lib.hid hk
  clear h hk
  have HJ := Lib.hid hj
  clear hj
  have hmf : ∀ (fn : Fn) (first cap : Array Value) (w : World), (Instr.makeFunc fn first cap).run Tryz.prog w = .ok (.func fn first cap) w := fun _ _ _ _ => rfl
  obtain ⟨w1, hw1⟩ : ∃ w1, w1 = ((w.alloc (.cells #[.pointer (some ⟨A, 0, none⟩)] 28)).alloc (.cells #[.slice (some ad) 4 c] 36)) := ⟨_, rfl⟩
  have hb1 : But [] w w1 := by rw [hw1]; exact ((But.refl [] w).alloc _).alloc _
  have g0 : w1.heap[w.heap.size]? = some (.cells #[.pointer (some ⟨A, 0, none⟩)] 28) := by rw [hw1]; exact al_keep (al_at w _) _
  have g1 : w1.heap[w.heap.size + 1]? = some (.cells #[.slice (some ad) 4 c] 36) := by rw [hw1]; exact al_eq _ _ _ (by rw [size_alloc])
  have HW := Lib.hid hw1
  have HB1 := Lib.hid hb1
  have G0 := Lib.hid g0
  have G1 := Lib.hid g1
  clear hw1 hb1 g0 g1
  go_enter Tryz.func15, Tryz.ntmps15
  go_wp2_with fail
  rw [← HW.out]
  refine (triedI 38 #[.pointer (some ⟨w.heap.size, 0, none⟩), .pointer (some ⟨w.heap.size + 1, 0, none⟩)] w1 (fun args w => by kernel_rfl) j (fun w3 => But [] w1 w3) (fun w2 hb2 hz2 => ?_)).mono ?_
  · refine (lookup1_ok ((H.out.keep HB1.out (by simp)).keep hb2 (by simp)) _ _ _ _ _ _ ((HKEY.out.but HB1.out).but hb2) j HJ.out hjl (cl_of (hb2.heap G0.out (by simp)) 0) (cl_of (hb2.heap G1.out (by simp)) 0)).mono ?_
    rintro e w3 ⟨rfl, hb3⟩
    exact ⟨rfl, hb2.trans hb3 (by simp), [], hb3, by simp, by simp⟩
  rintro e w' ⟨rfl, w3, hR3, hb4⟩
  have HB := Lib.hid ((HB1.out.trans hR3 (by simp)).trans hb4 (fun x hx => .inr (by have := HB1.out.size; simp at hx; omega)))
  clear hR3 hb4
  go_wp2_with fail
  go_ret2
  exact ⟨rfl, HB.out⟩
set_option maxHeartbeats 1000000 in
theorem delete_off {w : World} (p : Option Addr) (hv : OffA w (.pointer p)) (s : Value) : Calls Tryz.prog 18 #[.pointer p, s] w fun e w' => e = .returned (.int .i64 1) ∧ But [] w w' := by
  have H := Lib.hid hv
  clear hv
  have hmf : ∀ (fn : Fn) (first cap : Array Value) (w : World), (Instr.makeFunc fn first cap).run Tryz.prog w = .ok (.func fn first cap) w := fun _ _ _ _ => rfl
  obtain ⟨w1, hw1⟩ : ∃ w1, w1 = (w.alloc (.cells #[.pointer p] 28)) := ⟨_, rfl⟩
  have hb1 : But [] w w1 := by rw [hw1]; exact (But.refl [] w).alloc _
  have g0 : w1.heap[w.heap.size]? = some (.cells #[.pointer p] 28) := by rw [hw1]; exact al_at w _
  have HW := Lib.hid hw1
  have HB1 := Lib.hid hb1
  have G0 := Lib.hid g0
  clear hw1 hb1 g0
  go_enter Tryz.func18, Tryz.ntmps18
  go_wp2_with fail
  rw [← HW.out]
  refine (triedBE 43 #[.pointer (some ⟨w.heap.size, 0, none⟩)] w1 (fun args w => by kernel_rfl) 1 (fun w3 => But [] w1 w3) (fun w2 hb2 hz2 => ?_)).mono ?_
  · refine (delete1_off _ ((H.out.but HB1.out).but hb2) (cl_of (hb2.heap G0.out (by simp)) 0)).mono ?_
    rintro e w3 ⟨rfl, rfl⟩
    exact ⟨rfl, hb2, [], But.refl _ _, by simp, by simp⟩
  rintro e w' ⟨rfl, w3, hR3, hb4⟩
  have HB := Lib.hid ((HB1.out.trans hR3 (by simp)).trans hb4 (fun x hx => .inr (by have := HB1.out.size; simp at hx; omega)))
  clear hR3 hb4
  go_wp2_with fail
  go_ret
  exact ⟨rfl, HB.out⟩
set_option maxHeartbeats 1000000 in
theorem delete_all {w : World} {ok : Nat → Prop} {A size : Nat} {rows : List (List Value)} (h : ArrS w ok A size rows) (s : Value) : Calls Tryz.prog 18 #[.pointer (some ⟨A, 0, none⟩), s] w fun e w' => e = .returned (.int .i64 9) ∧ But [] w w' := by
  have H := Lib.hid h
  clear h
  have hmf : ∀ (fn : Fn) (first cap : Array Value) (w : World), (Instr.makeFunc fn first cap).run Tryz.prog w = .ok (.func fn first cap) w := fun _ _ _ _ => rfl
  obtain ⟨w1, hw1⟩ : ∃ w1, w1 = (w.alloc (.cells #[.pointer (some ⟨A, 0, none⟩)] 28)) := ⟨_, rfl⟩
  have hb1 : But [] w w1 := by rw [hw1]; exact (But.refl [] w).alloc _
  have g0 : w1.heap[w.heap.size]? = some (.cells #[.pointer (some ⟨A, 0, none⟩)] 28) := by rw [hw1]; exact al_at w _
  have HW := Lib.hid hw1
  have HB1 := Lib.hid hb1
  have G0 := Lib.hid g0
  clear hw1 hb1 g0
  go_enter Tryz.func18, Tryz.ntmps18
  go_wp2_with fail
  rw [← HW.out]
  refine (triedBE 43 #[.pointer (some ⟨w.heap.size, 0, none⟩)] w1 (fun args w => by kernel_rfl) 9 (fun w3 => But [] w1 w3) (fun w2 hb2 hz2 => ?_)).mono ?_
  · refine (delete1 ((H.out.keep HB1.out (by simp)).keep hb2 (by simp)) (cl_of (hb2.heap G0.out (by simp)) 0)).mono ?_
    rintro e w3 ⟨rfl, rfl⟩
    exact ⟨rfl, hb2, [], But.refl _ _, by simp, by simp⟩
  rintro e w' ⟨rfl, w3, hR3, hb4⟩
  have HB := Lib.hid ((HB1.out.trans hR3 (by simp)).trans hb4 (fun x hx => .inr (by have := HB1.out.size; simp at hx; omega)))
  clear hR3 hb4
  go_wp2_with fail
  go_ret
  exact ⟨rfl, HB.out⟩
set_option maxHeartbeats 1000000 in
theorem value_off {w : World} (p : Option Addr) (hv : OffA w (.pointer p)) (n : Int) : Calls Tryz.prog 10 #[.pointer p, .int .i64 n] w fun e w' => e = .returned (.tuple #[.slice none 0 0, .int .i64 1]) ∧ But [] w w' := by
  have H := Lib.hid hv
  clear hv
  have hmf : ∀ (fn : Fn) (first cap : Array Value) (w : World), (Instr.makeFunc fn first cap).run Tryz.prog w = .ok (.func fn first cap) w := fun _ _ _ _ => rfl
  obtain ⟨w1, hw1⟩ : ∃ w1, w1 = ((w.alloc (.cells #[.pointer p] 28)).alloc (.cells #[.int .i64 n] 3)) := ⟨_, rfl⟩
  have hb1 : But [] w w1 := by rw [hw1]; exact ((But.refl [] w).alloc _).alloc _
  have g0 : w1.heap[w.heap.size]? = some (.cells #[.pointer p] 28) := by rw [hw1]; exact al_keep (al_at w _) _
  have g1 : w1.heap[w.heap.size + 1]? = some (.cells #[.int .i64 n] 3) := by rw [hw1]; exact al_eq _ _ _ (by rw [size_alloc])
  have HW := Lib.hid hw1
  have HB1 := Lib.hid hb1
  have G0 := Lib.hid g0
  have G1 := Lib.hid g1
  clear hw1 hb1 g0 g1
  go_enter Tryz.func10, Tryz.ntmps10
  go_wp2_with fail
  rw [← HW.out]
  refine (triedSE 33 #[.pointer (some ⟨w.heap.size, 0, none⟩), .pointer (some ⟨w.heap.size + 1, 0, none⟩)] w1 (fun args w => by kernel_rfl) 1 (fun w3 => But [] w1 w3) (fun w2 hb2 hz2 => ?_)).mono ?_
  · refine (value1_off _ _ ((H.out.but HB1.out).but hb2) (cl_of (hb2.heap G0.out (by simp)) 0)).mono ?_
    rintro e w3 ⟨rfl, rfl⟩
    exact ⟨rfl, hb2, [], But.refl _ _, by simp, by simp⟩
  rintro e w' ⟨rfl, w3, hR3, hb4⟩
  have HB := Lib.hid ((HB1.out.trans hR3 (by simp)).trans hb4 (fun x hx => .inr (by have := HB1.out.size; simp at hx; omega)))
  clear hR3 hb4
  go_wp2_with fail
  go_ret2
  exact ⟨rfl, HB.out⟩
set_option maxHeartbeats 1000000 in
theorem value_none {w : World} {ok : Nat → Prop} {A size : Nat} {rows : List (List Value)} (h : ArrS w ok A size rows) (n : Int) (hn : n < 0 ∨ (rows.length : Int) ≤ n) : Calls Tryz.prog 10 #[.pointer (some ⟨A, 0, none⟩), .int .i64 n] w fun e w' => e = .returned (.tuple #[.slice none 0 0, .int .i64 6]) ∧ But [] w w' := by
  have H := Lib.hid h
  clear h
  have HN := Lib.hid hn
  clear hn
  have hmf : ∀ (fn : Fn) (first cap : Array Value) (w : World), (Instr.makeFunc fn first cap).run Tryz.prog w = .ok (.func fn first cap) w := fun _ _ _ _ => rfl
  obtain ⟨w1, hw1⟩ : ∃ w1, w1 = ((w.alloc (.cells #[.pointer (some ⟨A, 0, none⟩)] 28)).alloc (.cells #[.int .i64 n] 3)) := ⟨_, rfl⟩
  have hb1 : But [] w w1 := by rw [hw1]; exact ((But.refl [] w).alloc _).alloc _
  have g0 : w1.heap[w.heap.size]? = some (.cells #[.pointer (some ⟨A, 0, none⟩)] 28) := by rw [hw1]; exact al_keep (al_at w _) _
  have g1 : w1.heap[w.heap.size + 1]? = some (.cells #[.int .i64 n] 3) := by rw [hw1]; exact al_eq _ _ _ (by rw [size_alloc])
  have HW := Lib.hid hw1
  have HB1 := Lib.hid hb1
  have G0 := Lib.hid g0
  have G1 := Lib.hid g1
  clear hw1 hb1 g0 g1
  go_enter Tryz.func10, Tryz.ntmps10
  go_wp2_with fail
  rw [← HW.out]
  refine (triedSE 33 #[.pointer (some ⟨w.heap.size, 0, none⟩), .pointer (some ⟨w.heap.size + 1, 0, none⟩)] w1 (fun args w => by kernel_rfl) 6 (fun w3 => But [] w1 w3) (fun w2 hb2 hz2 => ?_)).mono ?_
  · refine (value1_none ((H.out.keep HB1.out (by simp)).keep hb2 (by simp)) _ HN.out (cl_of (hb2.heap G0.out (by simp)) 0) (cl_of (hb2.heap G1.out (by simp)) 0)).mono ?_
    rintro e w3 ⟨rfl, hb3⟩
    exact ⟨rfl, hb2.trans hb3 (by simp), [], hb3, by simp, by simp⟩
  rintro e w' ⟨rfl, w3, hR3, hb4⟩
  have HB := Lib.hid ((HB1.out.trans hR3 (by simp)).trans hb4 (fun x hx => .inr (by have := HB1.out.size; simp at hx; omega)))
  clear hR3 hb4
  go_wp2_with fail
  go_ret2
  exact ⟨rfl, HB.out⟩
end Go.Proofs.YtkgoblpddjpcnaaGreat.M
