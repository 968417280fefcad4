/-
  Value, Update, Set: the methods.
-/
import Derived.Test.YtkgoblpddjpcnaaGreatArrV
namespace Go.Proofs.YtkgoblpddjpcnaaGreat.M
open Go.RowKit Go.Shelf
set_option linter.unusedVariables false
set_option linter.unusedSectionVars false
set_option linter.unusedSimpArgs false
set_option maxRecDepth 10000
attribute [local go_sem ↓] Go.wp_at_zero Go.wp_at_succ
set_option maxHeartbeats 1000000 in
theorem update_off {w : World} (p : Option Addr) (hv : OffA w (.pointer p)) (a a1 : Option Addr) (n c m c1 : Nat) (f : Int) : Calls Tryz.prog 16 #[.pointer p, .slice a n c, .slice a1 m c1, .int .u64 f] w fun e w' => e = .returned (.int .i64 1) ∧ But [] w w' := by
  have H := Lib.hid hv
  clear hv
  have hmf : ∀ (fn : Fn) (first cap : Array Value) (w : World), (Instr.makeFunc fn first cap).run Tryz.prog w = .ok (.func fn first cap) w := fun _ _ _ _ => rfl
  obtain ⟨w1, hw1⟩ : ∃ w1, w1 = ((((w.alloc (.cells #[.pointer p] 28)).alloc (.cells #[.slice a n c] 36)).alloc (.cells #[.slice a1 m c1] 36)).alloc (.cells #[.int .u64 f] 37)) := ⟨_, rfl⟩
  have hb1 : But [] w w1 := by rw [hw1]; exact ((((But.refl [] w).alloc _).alloc _).alloc _).alloc _
  have g0 : w1.heap[w.heap.size]? = some (.cells #[.pointer p] 28) := by rw [hw1]; exact al_keep (al_keep (al_keep (al_at w _) _) _) _
  have g1 : w1.heap[w.heap.size + 1]? = some (.cells #[.slice a n c] 36) := by rw [hw1]; exact al_keep (al_keep (al_eq _ _ _ (by rw [size_alloc])) _) _
  have g2 : w1.heap[w.heap.size + 1 + 1]? = some (.cells #[.slice a1 m c1] 36) := by rw [hw1]; exact al_keep (al_eq _ _ _ (by rw [size_alloc, size_alloc])) _
  have g3 : w1.heap[w.heap.size + 1 + 1 + 1]? = some (.cells #[.int .u64 f] 37) := by rw [hw1]; exact al_eq _ _ _ (by rw [size_alloc, size_alloc, size_alloc])
  have HW := Lib.hid hw1
  have HB1 := Lib.hid hb1
  have G0 := Lib.hid g0
  have G1 := Lib.hid g1
  have G2 := Lib.hid g2
  have G3 := Lib.hid g3
  clear hw1 hb1 g0 g1 g2 g3
  go_enter Tryz.func16, Tryz.ntmps16
  go_wp2_with fail
  rw [← HW.out]
  refine (triedIE 40 #[.pointer (some ⟨w.heap.size, 0, none⟩), .pointer (some ⟨w.heap.size + 1, 0, none⟩), .pointer (some ⟨w.heap.size + 1 + 1, 0, none⟩), .pointer (some ⟨w.heap.size + 1 + 1 + 1, 0, none⟩)] w1 (fun args w => by kernel_rfl) 1 (fun w3 => But [] w1 w3) (fun w2 hb2 hz2 => ?_)).mono ?_
  · refine (update1_off _ _ _ _ ((H.out.but HB1.out).but hb2) (cl_of (hb2.heap G0.out (by simp)) 0)).mono ?_
    rintro e w3 ⟨rfl, rfl⟩
    exact ⟨rfl, hb2, [], But.refl _ _, by simp, by simp⟩
  rintro e w' ⟨rfl, w3, hR3, hb4⟩
  have HB := Lib.hid ((HB1.out.trans hR3 (by simp)).trans hb4 (fun x hx => .inr (by have := HB1.out.size; simp at hx; omega)))
  clear hR3 hb4
  go_wp2_with fail
  go_ret
  exact ⟨rfl, HB.out⟩
set_option maxHeartbeats 1000000 in
theorem update_bad {w : World} {ok : Nat → Prop} {A size : Nat} {rows : List (List Value)} (h : ArrS w ok A size rows) (a a1 : Option Addr) (n c m c1 : Nat) (f : Int) (hn : n ≠ 4) : Calls Tryz.prog 16 #[.pointer (some ⟨A, 0, none⟩), .slice a n c, .slice a1 m c1, .int .u64 f] w fun e w' => e = .returned (.int .i64 2) ∧ But [] w w' := by
  have H := Lib.hid h
  clear h
  have hmf : ∀ (fn : Fn) (first cap : Array Value) (w : World), (Instr.makeFunc fn first cap).run Tryz.prog w = .ok (.func fn first cap) w := fun _ _ _ _ => rfl
  obtain ⟨w1, hw1⟩ : ∃ w1, w1 = ((((w.alloc (.cells #[.pointer (some ⟨A, 0, none⟩)] 28)).alloc (.cells #[.slice a n c] 36)).alloc (.cells #[.slice a1 m c1] 36)).alloc (.cells #[.int .u64 f] 37)) := ⟨_, rfl⟩
  have hb1 : But [] w w1 := by rw [hw1]; exact ((((But.refl [] w).alloc _).alloc _).alloc _).alloc _
  have g0 : w1.heap[w.heap.size]? = some (.cells #[.pointer (some ⟨A, 0, none⟩)] 28) := by rw [hw1]; exact al_keep (al_keep (al_keep (al_at w _) _) _) _
  have g1 : w1.heap[w.heap.size + 1]? = some (.cells #[.slice a n c] 36) := by rw [hw1]; exact al_keep (al_keep (al_eq _ _ _ (by rw [size_alloc])) _) _
  have g2 : w1.heap[w.heap.size + 1 + 1]? = some (.cells #[.slice a1 m c1] 36) := by rw [hw1]; exact al_keep (al_eq _ _ _ (by rw [size_alloc, size_alloc])) _
  have g3 : w1.heap[w.heap.size + 1 + 1 + 1]? = some (.cells #[.int .u64 f] 37) := by rw [hw1]; exact al_eq _ _ _ (by rw [size_alloc, size_alloc, size_alloc])
  have HW := Lib.hid hw1
  have HB1 := Lib.hid hb1
  have G0 := Lib.hid g0
  have G1 := Lib.hid g1
  have G2 := Lib.hid g2
  have G3 := Lib.hid g3
  clear hw1 hb1 g0 g1 g2 g3
  go_enter Tryz.func16, Tryz.ntmps16
  go_wp2_with fail
  rw [← HW.out]
  refine (triedIE 40 #[.pointer (some ⟨w.heap.size, 0, none⟩), .pointer (some ⟨w.heap.size + 1, 0, none⟩), .pointer (some ⟨w.heap.size + 1 + 1, 0, none⟩), .pointer (some ⟨w.heap.size + 1 + 1 + 1, 0, none⟩)] w1 (fun args w => by kernel_rfl) 2 (fun w3 => But [] w1 w3) (fun w2 hb2 hz2 => ?_)).mono ?_
  · refine (update1_bad ((H.out.keep HB1.out (by simp)).keep hb2 (by simp)) _ _ _ hn _ _ (cl_of (hb2.heap G0.out (by simp)) 0) (cl_of (hb2.heap G1.out (by simp)) 0)).mono ?_
    rintro e w3 ⟨rfl, rfl⟩
    exact ⟨rfl, hb2, [], But.refl _ _, by simp, by simp⟩
  rintro e w' ⟨rfl, w3, hR3, hb4⟩
  have HB := Lib.hid ((HB1.out.trans hR3 (by simp)).trans hb4 (fun x hx => .inr (by have := HB1.out.size; simp at hx; omega)))
  clear hR3 hb4
  go_wp2_with fail
  go_ret
  exact ⟨rfl, HB.out⟩
set_option maxHeartbeats 1000000 in
theorem update_arg {w : World} {ok : Nat → Prop} {A size : Nat} {rows : List (List Value)} (h : ArrS w ok A size rows) (ad : Addr) (c : Nat) (k0 k1 k2 k3 : Int) (hk : KeyIn w ad k0 k1 k2 k3) {a1 : Option Addr} {m c1 : Nat} {f : Int} (ha : m ≠ size ∨ 2 < f) : Calls Tryz.prog 16 #[.pointer (some ⟨A, 0, none⟩), .slice (some ad) 4 c, .slice a1 m c1, .int .u64 f] w fun e w' => e = .returned (.int .i64 2) ∧ But [] w w' := by
  have H := Lib.hid h
  have HKEY := Lib.hid hk
  clear h hk
  have hmf : ∀ (fn : Fn) (first cap : Array Value) (w : World), (Instr.makeFunc fn first cap).run Tryz.prog w = .ok (.func fn first cap) w := fun _ _ _ _ => rfl
  obtain ⟨w1, hw1⟩ : ∃ w1, w1 = ((((w.alloc (.cells #[.pointer (some ⟨A, 0, none⟩)] 28)).alloc (.cells #[.slice (some ad) 4 c] 36)).alloc (.cells #[.slice a1 m c1] 36)).alloc (.cells #[.int .u64 f] 37)) := ⟨_, rfl⟩
  have hb1 : But [] w w1 := by rw [hw1]; exact ((((But.refl [] w).alloc _).alloc _).alloc _).alloc _
  have g0 : w1.heap[w.heap.size]? = some (.cells #[.pointer (some ⟨A, 0, none⟩)] 28) := by rw [hw1]; exact al_keep (al_keep (al_keep (al_at w _) _) _) _
  have g1 : w1.heap[w.heap.size + 1]? = some (.cells #[.slice (some ad) 4 c] 36) := by rw [hw1]; exact al_keep (al_keep (al_eq _ _ _ (by rw [size_alloc])) _) _
  have g2 : w1.heap[w.heap.size + 1 + 1]? = some (.cells #[.slice a1 m c1] 36) := by rw [hw1]; exact al_keep (al_eq _ _ _ (by rw [size_alloc, size_alloc])) _
  have g3 : w1.heap[w.heap.size + 1 + 1 + 1]? = some (.cells #[.int .u64 f] 37) := by rw [hw1]; exact al_eq _ _ _ (by rw [size_alloc, size_alloc, size_alloc])
  have HW := Lib.hid hw1
  have HB1 := Lib.hid hb1
  have G0 := Lib.hid g0
  have G1 := Lib.hid g1
  have G2 := Lib.hid g2
  have G3 := Lib.hid g3
  clear hw1 hb1 g0 g1 g2 g3
  go_enter Tryz.func16, Tryz.ntmps16
  go_wp2_with fail
  rw [← HW.out]
  refine (triedIE 40 #[.pointer (some ⟨w.heap.size, 0, none⟩), .pointer (some ⟨w.heap.size + 1, 0, none⟩), .pointer (some ⟨w.heap.size + 1 + 1, 0, none⟩), .pointer (some ⟨w.heap.size + 1 + 1 + 1, 0, none⟩)] w1 (fun args w => by kernel_rfl) 2 (fun w3 => But [] w1 w3) (fun w2 hb2 hz2 => ?_)).mono ?_
  · refine (update1_arg ((H.out.keep HB1.out (by simp)).keep hb2 (by simp)) _ _ _ _ _ _ ((HKEY.out.but HB1.out).but hb2) ⟨(cl_of (hb2.heap G0.out (by simp)) 0), (cl_of (hb2.heap G1.out (by simp)) 0), (cl_of (hb2.heap G2.out (by simp)) 0), (cl_of (hb2.heap G3.out (by simp)) 0)⟩ ha).mono ?_
    rintro e w3 ⟨rfl, hb3⟩
    exact ⟨rfl, hb2.trans hb3 (by simp), [], hb3, by simp, by simp⟩
  rintro e w' ⟨rfl, w3, hR3, hb4⟩
  have HB := Lib.hid ((HB1.out.trans hR3 (by simp)).trans hb4 (fun x hx => .inr (by have := HB1.out.size; simp at hx; omega)))
  clear hR3 hb4
  go_wp2_with fail
  go_ret
  exact ⟨rfl, HB.out⟩
set_option maxHeartbeats 1000000 in
theorem update_none {w : World} {ok : Nat → Prop} {A size : Nat} {rows : List (List Value)} (h : ArrS w ok A size rows) (ad : Addr) (c : Nat) (k0 k1 k2 k3 : Int) (hk : KeyIn w ad k0 k1 k2 k3) {a1 : Option Addr} {m c1 : Nat} {f : Int} (hm : size = m) (hf : f ≤ 2) (hn : sumK (keyItems k0 k1 k2 k3) < 0 ∨ (rows.length : Int) ≤ sumK (keyItems k0 k1 k2 k3)) : Calls Tryz.prog 16 #[.pointer (some ⟨A, 0, none⟩), .slice (some ad) 4 c, .slice a1 m c1, .int .u64 f] w fun e w' => e = .returned (.int .i64 6) ∧ But [] w w' := by
  have H := Lib.hid h
  have HKEY := Lib.hid hk
  clear h hk
  have HN := Lib.hid hn
  clear hn
  have hmf : ∀ (fn : Fn) (first cap : Array Value) (w : World), (Instr.makeFunc fn first cap).run Tryz.prog w = .ok (.func fn first cap) w := fun _ _ _ _ => rfl
  obtain ⟨w1, hw1⟩ : ∃ w1, w1 = ((((w.alloc (.cells #[.pointer (some ⟨A, 0, none⟩)] 28)).alloc (.cells #[.slice (some ad) 4 c] 36)).alloc (.cells #[.slice a1 m c1] 36)).alloc (.cells #[.int .u64 f] 37)) := ⟨_, rfl⟩
  have hb1 : But [] w w1 := by rw [hw1]; exact ((((But.refl [] w).alloc _).alloc _).alloc _).alloc _
  have g0 : w1.heap[w.heap.size]? = some (.cells #[.pointer (some ⟨A, 0, none⟩)] 28) := by rw [hw1]; exact al_keep (al_keep (al_keep (al_at w _) _) _) _
  have g1 : w1.heap[w.heap.size + 1]? = some (.cells #[.slice (some ad) 4 c] 36) := by rw [hw1]; exact al_keep (al_keep (al_eq _ _ _ (by rw [size_alloc])) _) _
  have g2 : w1.heap[w.heap.size + 1 + 1]? = some (.cells #[.slice a1 m c1] 36) := by rw [hw1]; exact al_keep (al_eq _ _ _ (by rw [size_alloc, size_alloc])) _
  have g3 : w1.heap[w.heap.size + 1 + 1 + 1]? = some (.cells #[.int .u64 f] 37) := by rw [hw1]; exact al_eq _ _ _ (by rw [size_alloc, size_alloc, size_alloc])
  have HW := Lib.hid hw1
  have HB1 := Lib.hid hb1
  have G0 := Lib.hid g0
  have G1 := Lib.hid g1
  have G2 := Lib.hid g2
  have G3 := Lib.hid g3
  clear hw1 hb1 g0 g1 g2 g3
  go_enter Tryz.func16, Tryz.ntmps16
  go_wp2_with fail
  rw [← HW.out]
  refine (triedIE 40 #[.pointer (some ⟨w.heap.size, 0, none⟩), .pointer (some ⟨w.heap.size + 1, 0, none⟩), .pointer (some ⟨w.heap.size + 1 + 1, 0, none⟩), .pointer (some ⟨w.heap.size + 1 + 1 + 1, 0, none⟩)] w1 (fun args w => by kernel_rfl) 6 (fun w3 => But [] w1 w3) (fun w2 hb2 hz2 => ?_)).mono ?_
  · refine (update1_none ((H.out.keep HB1.out (by simp)).keep hb2 (by simp)) _ _ _ _ _ _ ((HKEY.out.but HB1.out).but hb2) ⟨(cl_of (hb2.heap G0.out (by simp)) 0), (cl_of (hb2.heap G1.out (by simp)) 0), (cl_of (hb2.heap G2.out (by simp)) 0), (cl_of (hb2.heap G3.out (by simp)) 0)⟩ hm hf HN.out).mono ?_
    rintro e w3 ⟨rfl, hb3⟩
    exact ⟨rfl, hb2.trans hb3 (by simp), [], hb3, by simp, by simp⟩
  rintro e w' ⟨rfl, w3, hR3, hb4⟩
  have HB := Lib.hid ((HB1.out.trans hR3 (by simp)).trans hb4 (fun x hx => .inr (by have := HB1.out.size; simp at hx; omega)))
  clear hR3 hb4
  go_wp2_with fail
  go_ret
  exact ⟨rfl, HB.out⟩
set_option maxHeartbeats 1000000 in
theorem update_there {w : World} {ok : Nat → Prop} {A size : Nat} {rows : List (List Value)} (h : ArrS w ok A size rows) (ad : Addr) (c : Nat) (k0 k1 k2 k3 : Int) (hk : KeyIn w ad k0 k1 k2 k3) {a1 : Option Addr} {m c1 : Nat} (hm : size = m) (j : Nat) (hj : sumK (keyItems k0 k1 k2 k3) = j) (hjl : j < rows.length) : Calls Tryz.prog 16 #[.pointer (some ⟨A, 0, none⟩), .slice (some ad) 4 c, .slice a1 m c1, .int .u64 1] w fun e w' => e = .returned (.int .i64 7) ∧ But [] w w' := by
  have H := Lib.hid h
  have HKEY := Lib.hid hk
  clear h hk
  have HJ := Lib.hid hj
  clear hj
  have hmf : ∀ (fn : Fn) (first cap : Array Value) (w : World), (Instr.makeFunc fn first cap).run Tryz.prog w = .ok (.func fn first cap) w := fun _ _ _ _ => rfl
  obtain ⟨w1, hw1⟩ : ∃ w1, w1 = ((((w.alloc (.cells #[.pointer (some ⟨A, 0, none⟩)] 28)).alloc (.cells #[.slice (some ad) 4 c] 36)).alloc (.cells #[.slice a1 m c1] 36)).alloc (.cells #[.int .u64 1] 37)) := ⟨_, rfl⟩
  have hb1 : But [] w w1 := by rw [hw1]; exact ((((But.refl [] w).alloc _).alloc _).alloc _).alloc _
  have g0 : w1.heap[w.heap.size]? = some (.cells #[.pointer (some ⟨A, 0, none⟩)] 28) := by rw [hw1]; exact al_keep (al_keep (al_keep (al_at w _) _) _) _
  have g1 : w1.heap[w.heap.size + 1]? = some (.cells #[.slice (some ad) 4 c] 36) := by rw [hw1]; exact al_keep (al_keep (al_eq _ _ _ (by rw [size_alloc])) _) _
  have g2 : w1.heap[w.heap.size + 1 + 1]? = some (.cells #[.slice a1 m c1] 36) := by rw [hw1]; exact al_keep (al_eq _ _ _ (by rw [size_alloc, size_alloc])) _
  have g3 : w1.heap[w.heap.size + 1 + 1 + 1]? = some (.cells #[.int .u64 1] 37) := by rw [hw1]; exact al_eq _ _ _ (by rw [size_alloc, size_alloc, size_alloc])
  have HW := Lib.hid hw1
  have HB1 := Lib.hid hb1
  have G0 := Lib.hid g0
  have G1 := Lib.hid g1
  have G2 := Lib.hid g2
  have G3 := Lib.hid g3
  clear hw1 hb1 g0 g1 g2 g3
  go_enter Tryz.func16, Tryz.ntmps16
  go_wp2_with fail
  rw [← HW.out]
  refine (triedIE 40 #[.pointer (some ⟨w.heap.size, 0, none⟩), .pointer (some ⟨w.heap.size + 1, 0, none⟩), .pointer (some ⟨w.heap.size + 1 + 1, 0, none⟩), .pointer (some ⟨w.heap.size + 1 + 1 + 1, 0, none⟩)] w1 (fun args w => by kernel_rfl) 7 (fun w3 => But [] w1 w3) (fun w2 hb2 hz2 => ?_)).mono ?_
  · refine (update1_there ((H.out.keep HB1.out (by simp)).keep hb2 (by simp)) _ _ _ _ _ _ ((HKEY.out.but HB1.out).but hb2) ⟨(cl_of (hb2.heap G0.out (by simp)) 0), (cl_of (hb2.heap G1.out (by simp)) 0), (cl_of (hb2.heap G2.out (by simp)) 0), (cl_of (hb2.heap G3.out (by simp)) 0)⟩ hm j HJ.out hjl).mono ?_
    rintro e w3 ⟨rfl, hb3⟩
    exact ⟨rfl, hb2.trans hb3 (by simp), [], hb3, by simp, by simp⟩
  rintro e w' ⟨rfl, w3, hR3, hb4⟩
  have HB := Lib.hid ((HB1.out.trans hR3 (by simp)).trans hb4 (fun x hx => .inr (by have := HB1.out.size; simp at hx; omega)))
  clear hR3 hb4
  go_wp2_with fail
  go_ret
  exact ⟨rfl, HB.out⟩
set_option maxHeartbeats 1000000 in
theorem update_ok {w : World} {ok : Nat → Prop} {A size : Nat} {rows : List (List Value)} (h : ArrS w ok A size rows) (ad : Addr) (c : Nat) (k0 k1 k2 k3 : Int) (hk : KeyIn w ad k0 k1 k2 k3) {a1 : Option Addr} {m c1 : Nat} {f : Int} (hm : size = m) (hf : f ≤ 2) (hf1 : f ≠ 1) (j : Nat) (hj : sumK (keyItems k0 k1 k2 k3) = j) (hjl : j < rows.length) {xs : List Value} (hx : Sees w (.slice a1 m c1) xs) (hxl : xs.length = size) (hxb : ∀ u ∈ xs, ∃ n : Int, u = .int .u8 n) : Calls Tryz.prog 16 #[.pointer (some ⟨A, 0, none⟩), .slice (some ad) 4 c, .slice a1 m c1, .int .u64 f] w fun e w' => e = .returned (.int .i64 0) ∧ ArrS w' ok A size (rows.set j xs) ∧ ∃ g, ok g ∧ But [g] w w' := by
  have H := Lib.hid (h.also (ok' := fun b => ok b ∧ b < w.heap.size) fun b hb hk => ⟨hk, hb⟩)
  have HKEY := Lib.hid hk
  clear h hk
  have HJ := Lib.hid hj
  clear hj
  have HX := Lib.hid hx
  have HXB := Lib.hid hxb
  clear hx hxb
  have hmf : ∀ (fn : Fn) (first cap : Array Value) (w : World), (Instr.makeFunc fn first cap).run Tryz.prog w = .ok (.func fn first cap) w := fun _ _ _ _ => rfl
  obtain ⟨w1, hw1⟩ : ∃ w1, w1 = ((((w.alloc (.cells #[.pointer (some ⟨A, 0, none⟩)] 28)).alloc (.cells #[.slice (some ad) 4 c] 36)).alloc (.cells #[.slice a1 m c1] 36)).alloc (.cells #[.int .u64 f] 37)) := ⟨_, rfl⟩
  have hb1 : But [] w w1 := by rw [hw1]; exact ((((But.refl [] w).alloc _).alloc _).alloc _).alloc _
  have g0 : w1.heap[w.heap.size]? = some (.cells #[.pointer (some ⟨A, 0, none⟩)] 28) := by rw [hw1]; exact al_keep (al_keep (al_keep (al_at w _) _) _) _
  have g1 : w1.heap[w.heap.size + 1]? = some (.cells #[.slice (some ad) 4 c] 36) := by rw [hw1]; exact al_keep (al_keep (al_eq _ _ _ (by rw [size_alloc])) _) _
  have g2 : w1.heap[w.heap.size + 1 + 1]? = some (.cells #[.slice a1 m c1] 36) := by rw [hw1]; exact al_keep (al_eq _ _ _ (by rw [size_alloc, size_alloc])) _
  have g3 : w1.heap[w.heap.size + 1 + 1 + 1]? = some (.cells #[.int .u64 f] 37) := by rw [hw1]; exact al_eq _ _ _ (by rw [size_alloc, size_alloc, size_alloc])
  have HW := Lib.hid hw1
  have HB1 := Lib.hid hb1
  have G0 := Lib.hid g0
  have G1 := Lib.hid g1
  have G2 := Lib.hid g2
  have G3 := Lib.hid g3
  clear hw1 hb1 g0 g1 g2 g3
  go_enter Tryz.func16, Tryz.ntmps16
  go_wp2_with fail
  rw [← HW.out]
  refine (triedI 40 #[.pointer (some ⟨w.heap.size, 0, none⟩), .pointer (some ⟨w.heap.size + 1, 0, none⟩), .pointer (some ⟨w.heap.size + 1 + 1, 0, none⟩), .pointer (some ⟨w.heap.size + 1 + 1 + 1, 0, none⟩)] w1 (fun args w => by kernel_rfl) size (fun w3 => ArrS w3 (fun b => ok b ∧ b < w.heap.size) A size (rows.set j xs) ∧ ∃ g, (ok g ∧ g < w.heap.size) ∧ But [g] w1 w3) (fun w2 hb2 hz2 => ?_)).mono ?_
  · refine (update1_ok ((H.out.keep HB1.out (by simp)).keep hb2 (by simp)) _ _ _ _ _ _ ((HKEY.out.but HB1.out).but hb2) ⟨(cl_of (hb2.heap G0.out (by simp)) 0), (cl_of (hb2.heap G1.out (by simp)) 0), (cl_of (hb2.heap G2.out (by simp)) 0), (cl_of (hb2.heap G3.out (by simp)) 0)⟩ hm hf hf1 j HJ.out hjl ((HX.out.but HB1.out (by simp)).but hb2 (by simp)) hxl HXB.out).mono ?_
    rintro e w3 ⟨rfl, hS3, g, hg3, hb3⟩
    exact ⟨rfl, ⟨hS3, g, hg3, (hb2.mono (by simp)).trans hb3 (fun x hx => .inl hx)⟩, [g], hb3, (by have := hg3.2; have := HB1.out.size; simp; omega), (by have := hg3.2; have := HB1.out.size; simp; omega)⟩
  rintro e w' ⟨rfl, w3, hR3, hb4⟩
  obtain ⟨hS3, g, hg3, hb3⟩ := hR3
  have HP : Hid (ArrS w' ok A size (rows.set j xs) ∧ ∃ g, ok g ∧ But [g] w w') := Lib.hid ⟨(hS3.keep hb4 (fun x hx hk => by have h1 := HB1.out.size; have h2 := hk.2; simp at hx; omega)).also (fun b _ h => h.1), g, hg3.1, ((HB1.out.mono (by simp)).trans hb3 (fun x hx => .inl hx)).trans hb4 (fun x hx => .inr (by have := HB1.out.size; simp at hx; omega))⟩
  clear hS3 hg3 hb3 hb4
  go_wp2_with fail
  go_ret
  exact ⟨rfl, HP.out⟩
set_option maxHeartbeats 1000000 in
theorem set_off {w : World} (p : Option Addr) (hv : OffA w (.pointer p)) (n f : Int) (a1 : Option Addr) (m c1 : Nat) : Calls Tryz.prog 17 #[.pointer p, .int .i64 n, .int .i64 f, .slice a1 m c1] w fun e w' => e = .returned (.int .i64 1) ∧ But [] w w' := by
  have H := Lib.hid hv
  clear hv
  have hmf : ∀ (fn : Fn) (first cap : Array Value) (w : World), (Instr.makeFunc fn first cap).run Tryz.prog w = .ok (.func fn first cap) w := fun _ _ _ _ => rfl
  obtain ⟨w1, hw1⟩ : ∃ w1, w1 = ((((w.alloc (.cells #[.pointer p] 28)).alloc (.cells #[.int .i64 n] 3)).alloc (.cells #[.int .i64 f] 3)).alloc (.cells #[.slice a1 m c1] 36)) := ⟨_, rfl⟩
  have hb1 : But [] w w1 := by rw [hw1]; exact ((((But.refl [] w).alloc _).alloc _).alloc _).alloc _
  have g0 : w1.heap[w.heap.size]? = some (.cells #[.pointer p] 28) := by rw [hw1]; exact al_keep (al_keep (al_keep (al_at w _) _) _) _
  have g1 : w1.heap[w.heap.size + 1]? = some (.cells #[.int .i64 n] 3) := by rw [hw1]; exact al_keep (al_keep (al_eq _ _ _ (by rw [size_alloc])) _) _
  have g2 : w1.heap[w.heap.size + 1 + 1]? = some (.cells #[.int .i64 f] 3) := by rw [hw1]; exact al_keep (al_eq _ _ _ (by rw [size_alloc, size_alloc])) _
  have g3 : w1.heap[w.heap.size + 1 + 1 + 1]? = some (.cells #[.slice a1 m c1] 36) := by rw [hw1]; exact al_eq _ _ _ (by rw [size_alloc, size_alloc, size_alloc])
  have HW := Lib.hid hw1
  have HB1 := Lib.hid hb1
  have G0 := Lib.hid g0
  have G1 := Lib.hid g1
  have G2 := Lib.hid g2
  have G3 := Lib.hid g3
  clear hw1 hb1 g0 g1 g2 g3
  go_enter Tryz.func17, Tryz.ntmps17
  go_wp2_with fail
  rw [← HW.out]
  refine (triedIE 41 #[.pointer (some ⟨w.heap.size, 0, none⟩), .pointer (some ⟨w.heap.size + 1, 0, none⟩), .pointer (some ⟨w.heap.size + 1 + 1, 0, none⟩), .pointer (some ⟨w.heap.size + 1 + 1 + 1, 0, none⟩)] w1 (fun args w => by kernel_rfl) 1 (fun w3 => But [] w1 w3) (fun w2 hb2 hz2 => ?_)).mono ?_
  · refine (set1_off _ _ _ _ ((H.out.but HB1.out).but hb2) (cl_of (hb2.heap G0.out (by simp)) 0)).mono ?_
    rintro e w3 ⟨rfl, rfl⟩
    exact ⟨rfl, hb2, [], But.refl _ _, by simp, by simp⟩
  rintro e w' ⟨rfl, w3, hR3, hb4⟩
  have HB := Lib.hid ((HB1.out.trans hR3 (by simp)).trans hb4 (fun x hx => .inr (by have := HB1.out.size; simp at hx; omega)))
  clear hR3 hb4
  go_wp2_with fail
  go_ret
  exact ⟨rfl, HB.out⟩
set_option maxHeartbeats 1000000 in
theorem set_none {w : World} {ok : Nat → Prop} {A size : Nat} {rows : List (List Value)} (h : ArrS w ok A size rows) (n f : Int) (a1 : Option Addr) (m c1 : Nat) (hn : n < 0 ∨ (rows.length : Int) ≤ n) : Calls Tryz.prog 17 #[.pointer (some ⟨A, 0, none⟩), .int .i64 n, .int .i64 f, .slice a1 m c1] w fun e w' => e = .returned (.int .i64 6) ∧ But [] w w' := by
  have H := Lib.hid h
  clear h
  have HN := Lib.hid hn
  clear hn
  have hmf : ∀ (fn : Fn) (first cap : Array Value) (w : World), (Instr.makeFunc fn first cap).run Tryz.prog w = .ok (.func fn first cap) w := fun _ _ _ _ => rfl
  obtain ⟨w1, hw1⟩ : ∃ w1, w1 = ((((w.alloc (.cells #[.pointer (some ⟨A, 0, none⟩)] 28)).alloc (.cells #[.int .i64 n] 3)).alloc (.cells #[.int .i64 f] 3)).alloc (.cells #[.slice a1 m c1] 36)) := ⟨_, rfl⟩
  have hb1 : But [] w w1 := by rw [hw1]; exact ((((But.refl [] w).alloc _).alloc _).alloc _).alloc _
  have g0 : w1.heap[w.heap.size]? = some (.cells #[.pointer (some ⟨A, 0, none⟩)] 28) := by rw [hw1]; exact al_keep (al_keep (al_keep (al_at w _) _) _) _
  have g1 : w1.heap[w.heap.size + 1]? = some (.cells #[.int .i64 n] 3) := by rw [hw1]; exact al_keep (al_keep (al_eq _ _ _ (by rw [size_alloc])) _) _
  have g2 : w1.heap[w.heap.size + 1 + 1]? = some (.cells #[.int .i64 f] 3) := by rw [hw1]; exact al_keep (al_eq _ _ _ (by rw [size_alloc, size_alloc])) _
  have g3 : w1.heap[w.heap.size + 1 + 1 + 1]? = some (.cells #[.slice a1 m c1] 36) := by rw [hw1]; exact al_eq _ _ _ (by rw [size_alloc, size_alloc, size_alloc])
  have HW := Lib.hid hw1
  have HB1 := Lib.hid hb1
  have G0 := Lib.hid g0
  have G1 := Lib.hid g1
  have G2 := Lib.hid g2
  have G3 := Lib.hid g3
  clear hw1 hb1 g0 g1 g2 g3
  go_enter Tryz.func17, Tryz.ntmps17
  go_wp2_with fail
  rw [← HW.out]
  refine (triedIE 41 #[.pointer (some ⟨w.heap.size, 0, none⟩), .pointer (some ⟨w.heap.size + 1, 0, none⟩), .pointer (some ⟨w.heap.size + 1 + 1, 0, none⟩), .pointer (some ⟨w.heap.size + 1 + 1 + 1, 0, none⟩)] w1 (fun args w => by kernel_rfl) 6 (fun w3 => But [] w1 w3) (fun w2 hb2 hz2 => ?_)).mono ?_
  · refine (set1_none ((H.out.keep HB1.out (by simp)).keep hb2 (by simp)) ⟨(cl_of (hb2.heap G0.out (by simp)) 0), (cl_of (hb2.heap G1.out (by simp)) 0), (cl_of (hb2.heap G2.out (by simp)) 0), (cl_of (hb2.heap G3.out (by simp)) 0)⟩ HN.out).mono ?_
    rintro e w3 ⟨rfl, hb3⟩
    exact ⟨rfl, hb2.trans hb3 (by simp), [], hb3, by simp, by simp⟩
  rintro e w' ⟨rfl, w3, hR3, hb4⟩
  have HB := Lib.hid ((HB1.out.trans hR3 (by simp)).trans hb4 (fun x hx => .inr (by have := HB1.out.size; simp at hx; omega)))
  clear hR3 hb4
  go_wp2_with fail
  go_ret
  exact ⟨rfl, HB.out⟩
set_option maxHeartbeats 1000000 in
theorem set_boundsA {w : World} {ok : Nat → Prop} {A size : Nat} {rows : List (List Value)} (h : ArrS w ok A size rows) (j : Nat) (hjl : j < rows.length) (f : Int) (a1 : Option Addr) (m c1 : Nat) (hf : f < 0) : Calls Tryz.prog 17 #[.pointer (some ⟨A, 0, none⟩), .int .i64 j, .int .i64 f, .slice a1 m c1] w fun e w' => e = .returned (.int .i64 32) ∧ But [] w w' := by
  have H := Lib.hid h
  clear h
  have hmf : ∀ (fn : Fn) (first cap : Array Value) (w : World), (Instr.makeFunc fn first cap).run Tryz.prog w = .ok (.func fn first cap) w := fun _ _ _ _ => rfl
  obtain ⟨w1, hw1⟩ : ∃ w1, w1 = ((((w.alloc (.cells #[.pointer (some ⟨A, 0, none⟩)] 28)).alloc (.cells #[.int .i64 j] 3)).alloc (.cells #[.int .i64 f] 3)).alloc (.cells #[.slice a1 m c1] 36)) := ⟨_, rfl⟩
  have hb1 : But [] w w1 := by rw [hw1]; exact ((((But.refl [] w).alloc _).alloc _).alloc _).alloc _
  have g0 : w1.heap[w.heap.size]? = some (.cells #[.pointer (some ⟨A, 0, none⟩)] 28) := by rw [hw1]; exact al_keep (al_keep (al_keep (al_at w _) _) _) _
  have g1 : w1.heap[w.heap.size + 1]? = some (.cells #[.int .i64 j] 3) := by rw [hw1]; exact al_keep (al_keep (al_eq _ _ _ (by rw [size_alloc])) _) _
  have g2 : w1.heap[w.heap.size + 1 + 1]? = some (.cells #[.int .i64 f] 3) := by rw [hw1]; exact al_keep (al_eq _ _ _ (by rw [size_alloc, size_alloc])) _
  have g3 : w1.heap[w.heap.size + 1 + 1 + 1]? = some (.cells #[.slice a1 m c1] 36) := by rw [hw1]; exact al_eq _ _ _ (by rw [size_alloc, size_alloc, size_alloc])
  have HW := Lib.hid hw1
  have HB1 := Lib.hid hb1
  have G0 := Lib.hid g0
  have G1 := Lib.hid g1
  have G2 := Lib.hid g2
  have G3 := Lib.hid g3
  clear hw1 hb1 g0 g1 g2 g3
  go_enter Tryz.func17, Tryz.ntmps17
  go_wp2_with fail
  rw [← HW.out]
  refine (triedIE 41 #[.pointer (some ⟨w.heap.size, 0, none⟩), .pointer (some ⟨w.heap.size + 1, 0, none⟩), .pointer (some ⟨w.heap.size + 1 + 1, 0, none⟩), .pointer (some ⟨w.heap.size + 1 + 1 + 1, 0, none⟩)] w1 (fun args w => by kernel_rfl) 32 (fun w3 => But [] w1 w3) (fun w2 hb2 hz2 => ?_)).mono ?_
  · refine (set1_boundsA ((H.out.keep HB1.out (by simp)).keep hb2 (by simp)) j hjl ⟨(cl_of (hb2.heap G0.out (by simp)) 0), (cl_of (hb2.heap G1.out (by simp)) 0), (cl_of (hb2.heap G2.out (by simp)) 0), (cl_of (hb2.heap G3.out (by simp)) 0)⟩ hf).mono ?_
    rintro e w3 ⟨rfl, hb3⟩
    exact ⟨rfl, hb2.trans hb3 (by simp), [], hb3, by simp, by simp⟩
  rintro e w' ⟨rfl, w3, hR3, hb4⟩
  have HB := Lib.hid ((HB1.out.trans hR3 (by simp)).trans hb4 (fun x hx => .inr (by have := HB1.out.size; simp at hx; omega)))
  clear hR3 hb4
  go_wp2_with fail
  go_ret
  exact ⟨rfl, HB.out⟩
set_option maxHeartbeats 1000000 in
theorem set_boundsB {w : World} {ok : Nat → Prop} {A size : Nat} {rows : List (List Value)} (h : ArrS w ok A size rows) (j : Nat) (hjl : j < rows.length) (f : Int) (a1 : Option Addr) (m c1 : Nat) (hf0 : 0 ≤ f) (hf : (size : Int) < f) : Calls Tryz.prog 17 #[.pointer (some ⟨A, 0, none⟩), .int .i64 j, .int .i64 f, .slice a1 m c1] w fun e w' => e = .returned (.int .i64 32) ∧ But [] w w' := by
  have H := Lib.hid h
  clear h
  have hmf : ∀ (fn : Fn) (first cap : Array Value) (w : World), (Instr.makeFunc fn first cap).run Tryz.prog w = .ok (.func fn first cap) w := fun _ _ _ _ => rfl
  obtain ⟨w1, hw1⟩ : ∃ w1, w1 = ((((w.alloc (.cells #[.pointer (some ⟨A, 0, none⟩)] 28)).alloc (.cells #[.int .i64 j] 3)).alloc (.cells #[.int .i64 f] 3)).alloc (.cells #[.slice a1 m c1] 36)) := ⟨_, rfl⟩
  have hb1 : But [] w w1 := by rw [hw1]; exact ((((But.refl [] w).alloc _).alloc _).alloc _).alloc _
  have g0 : w1.heap[w.heap.size]? = some (.cells #[.pointer (some ⟨A, 0, none⟩)] 28) := by rw [hw1]; exact al_keep (al_keep (al_keep (al_at w _) _) _) _
  have g1 : w1.heap[w.heap.size + 1]? = some (.cells #[.int .i64 j] 3) := by rw [hw1]; exact al_keep (al_keep (al_eq _ _ _ (by rw [size_alloc])) _) _
  have g2 : w1.heap[w.heap.size + 1 + 1]? = some (.cells #[.int .i64 f] 3) := by rw [hw1]; exact al_keep (al_eq _ _ _ (by rw [size_alloc, size_alloc])) _
  have g3 : w1.heap[w.heap.size + 1 + 1 + 1]? = some (.cells #[.slice a1 m c1] 36) := by rw [hw1]; exact al_eq _ _ _ (by rw [size_alloc, size_alloc, size_alloc])
  have HW := Lib.hid hw1
  have HB1 := Lib.hid hb1
  have G0 := Lib.hid g0
  have G1 := Lib.hid g1
  have G2 := Lib.hid g2
  have G3 := Lib.hid g3
  clear hw1 hb1 g0 g1 g2 g3
  go_enter Tryz.func17, Tryz.ntmps17
  go_wp2_with fail
  rw [← HW.out]
  refine (triedIE 41 #[.pointer (some ⟨w.heap.size, 0, none⟩), .pointer (some ⟨w.heap.size + 1, 0, none⟩), .pointer (some ⟨w.heap.size + 1 + 1, 0, none⟩), .pointer (some ⟨w.heap.size + 1 + 1 + 1, 0, none⟩)] w1 (fun args w => by kernel_rfl) 32 (fun w3 => But [] w1 w3) (fun w2 hb2 hz2 => ?_)).mono ?_
  · refine (set1_boundsB ((H.out.keep HB1.out (by simp)).keep hb2 (by simp)) j hjl ⟨(cl_of (hb2.heap G0.out (by simp)) 0), (cl_of (hb2.heap G1.out (by simp)) 0), (cl_of (hb2.heap G2.out (by simp)) 0), (cl_of (hb2.heap G3.out (by simp)) 0)⟩ hf0 hf).mono ?_
    rintro e w3 ⟨rfl, hb3⟩
    exact ⟨rfl, hb2.trans hb3 (by simp), [], hb3, by simp, by simp⟩
  rintro e w' ⟨rfl, w3, hR3, hb4⟩
  have HB := Lib.hid ((HB1.out.trans hR3 (by simp)).trans hb4 (fun x hx => .inr (by have := HB1.out.size; simp at hx; omega)))
  clear hR3 hb4
  go_wp2_with fail
  go_ret
  exact ⟨rfl, HB.out⟩
set_option maxHeartbeats 1000000 in
theorem set_boundsC {w : World} {ok : Nat → Prop} {A size : Nat} {rows : List (List Value)} (h : ArrS w ok A size rows) (j : Nat) (hjl : j < rows.length) (f : Int) (a1 : Option Addr) (m c1 : Nat) (hf0 : 0 ≤ f) (hf1 : f ≤ (size : Int)) (hf : (size : Int) - f < m) : Calls Tryz.prog 17 #[.pointer (some ⟨A, 0, none⟩), .int .i64 j, .int .i64 f, .slice a1 m c1] w fun e w' => e = .returned (.int .i64 32) ∧ But [] w w' := by
  have H := Lib.hid h
  clear h
  have hmf : ∀ (fn : Fn) (first cap : Array Value) (w : World), (Instr.makeFunc fn first cap).run Tryz.prog w = .ok (.func fn first cap) w := fun _ _ _ _ => rfl
  obtain ⟨w1, hw1⟩ : ∃ w1, w1 = ((((w.alloc (.cells #[.pointer (some ⟨A, 0, none⟩)] 28)).alloc (.cells #[.int .i64 j] 3)).alloc (.cells #[.int .i64 f] 3)).alloc (.cells #[.slice a1 m c1] 36)) := ⟨_, rfl⟩
  have hb1 : But [] w w1 := by rw [hw1]; exact ((((But.refl [] w).alloc _).alloc _).alloc _).alloc _
  have g0 : w1.heap[w.heap.size]? = some (.cells #[.pointer (some ⟨A, 0, none⟩)] 28) := by rw [hw1]; exact al_keep (al_keep (al_keep (al_at w _) _) _) _
  have g1 : w1.heap[w.heap.size + 1]? = some (.cells #[.int .i64 j] 3) := by rw [hw1]; exact al_keep (al_keep (al_eq _ _ _ (by rw [size_alloc])) _) _
  have g2 : w1.heap[w.heap.size + 1 + 1]? = some (.cells #[.int .i64 f] 3) := by rw [hw1]; exact al_keep (al_eq _ _ _ (by rw [size_alloc, size_alloc])) _
  have g3 : w1.heap[w.heap.size + 1 + 1 + 1]? = some (.cells #[.slice a1 m c1] 36) := by rw [hw1]; exact al_eq _ _ _ (by rw [size_alloc, size_alloc, size_alloc])
  have HW := Lib.hid hw1
  have HB1 := Lib.hid hb1
  have G0 := Lib.hid g0
  have G1 := Lib.hid g1
  have G2 := Lib.hid g2
  have G3 := Lib.hid g3
  clear hw1 hb1 g0 g1 g2 g3
  go_enter Tryz.func17, Tryz.ntmps17
  go_wp2_with fail
  rw [← HW.out]
  refine (triedIE 41 #[.pointer (some ⟨w.heap.size, 0, none⟩), .pointer (some ⟨w.heap.size + 1, 0, none⟩), .pointer (some ⟨w.heap.size + 1 + 1, 0, none⟩), .pointer (some ⟨w.heap.size + 1 + 1 + 1, 0, none⟩)] w1 (fun args w => by kernel_rfl) 32 (fun w3 => But [] w1 w3) (fun w2 hb2 hz2 => ?_)).mono ?_
  · refine (set1_boundsC ((H.out.keep HB1.out (by simp)).keep hb2 (by simp)) j hjl ⟨(cl_of (hb2.heap G0.out (by simp)) 0), (cl_of (hb2.heap G1.out (by simp)) 0), (cl_of (hb2.heap G2.out (by simp)) 0), (cl_of (hb2.heap G3.out (by simp)) 0)⟩ hf0 hf1 hf).mono ?_
    rintro e w3 ⟨rfl, hb3⟩
    exact ⟨rfl, hb2.trans hb3 (by simp), [], hb3, by simp, by simp⟩
  rintro e w' ⟨rfl, w3, hR3, hb4⟩
  have HB := Lib.hid ((HB1.out.trans hR3 (by simp)).trans hb4 (fun x hx => .inr (by have := HB1.out.size; simp at hx; omega)))
  clear hR3 hb4
  go_wp2_with fail
  go_ret
  exact ⟨rfl, HB.out⟩
set_option maxHeartbeats 1000000 in
theorem set_ok {w : World} {ok : Nat → Prop} {A size : Nat} {rows : List (List Value)} (h : ArrS w ok A size rows) (j : Nat) (r : List Value) (hr : rows[j]? = some r) (k : Nat) (a1 : Option Addr) (m c1 : Nat) (hk : k + m ≤ size) {xs : List Value} (hx : Sees w (.slice a1 m c1) xs) (hxl : xs.length = m) (hxb : ∀ u ∈ xs, ∃ n : Int, u = .int .u8 n) : Calls Tryz.prog 17 #[.pointer (some ⟨A, 0, none⟩), .int .i64 j, .int .i64 k, .slice a1 m c1] w fun e w' => e = .returned (.int .i64 0) ∧ ArrS w' ok A size (rows.set j (splice r k xs)) ∧ ∃ g, ok g ∧ But [g] w w' := by
  have H := Lib.hid (h.also (ok' := fun b => ok b ∧ b < w.heap.size) fun b hb hk => ⟨hk, hb⟩)
  clear h
  have HX := Lib.hid hx
  have HXB := Lib.hid hxb
  clear hx hxb
  have HR := Lib.hid hr
  clear hr
  have hmf : ∀ (fn : Fn) (first cap : Array Value) (w : World), (Instr.makeFunc fn first cap).run Tryz.prog w = .ok (.func fn first cap) w := fun _ _ _ _ => rfl
  obtain ⟨w1, hw1⟩ : ∃ w1, w1 = ((((w.alloc (.cells #[.pointer (some ⟨A, 0, none⟩)] 28)).alloc (.cells #[.int .i64 j] 3)).alloc (.cells #[.int .i64 k] 3)).alloc (.cells #[.slice a1 m c1] 36)) := ⟨_, rfl⟩
  have hb1 : But [] w w1 := by rw [hw1]; exact ((((But.refl [] w).alloc _).alloc _).alloc _).alloc _
  have g0 : w1.heap[w.heap.size]? = some (.cells #[.pointer (some ⟨A, 0, none⟩)] 28) := by rw [hw1]; exact al_keep (al_keep (al_keep (al_at w _) _) _) _
  have g1 : w1.heap[w.heap.size + 1]? = some (.cells #[.int .i64 j] 3) := by rw [hw1]; exact al_keep (al_keep (al_eq _ _ _ (by rw [size_alloc])) _) _
  have g2 : w1.heap[w.heap.size + 1 + 1]? = some (.cells #[.int .i64 k] 3) := by rw [hw1]; exact al_keep (al_eq _ _ _ (by rw [size_alloc, size_alloc])) _
  have g3 : w1.heap[w.heap.size + 1 + 1 + 1]? = some (.cells #[.slice a1 m c1] 36) := by rw [hw1]; exact al_eq _ _ _ (by rw [size_alloc, size_alloc, size_alloc])
  have HW := Lib.hid hw1
  have HB1 := Lib.hid hb1
  have G0 := Lib.hid g0
  have G1 := Lib.hid g1
  have G2 := Lib.hid g2
  have G3 := Lib.hid g3
  clear hw1 hb1 g0 g1 g2 g3
  go_enter Tryz.func17, Tryz.ntmps17
  go_wp2_with fail
  rw [← HW.out]
  refine (triedI 41 #[.pointer (some ⟨w.heap.size, 0, none⟩), .pointer (some ⟨w.heap.size + 1, 0, none⟩), .pointer (some ⟨w.heap.size + 1 + 1, 0, none⟩), .pointer (some ⟨w.heap.size + 1 + 1 + 1, 0, none⟩)] w1 (fun args w => by kernel_rfl) m (fun w3 => ArrS w3 (fun b => ok b ∧ b < w.heap.size) A size (rows.set j (splice r k xs)) ∧ ∃ g, (ok g ∧ g < w.heap.size) ∧ But [g] w1 w3) (fun w2 hb2 hz2 => ?_)).mono ?_
  · refine (set1_ok ((H.out.keep HB1.out (by simp)).keep hb2 (by simp)) j r HR.out ⟨(cl_of (hb2.heap G0.out (by simp)) 0), (cl_of (hb2.heap G1.out (by simp)) 0), (cl_of (hb2.heap G2.out (by simp)) 0), (cl_of (hb2.heap G3.out (by simp)) 0)⟩ hk ((HX.out.but HB1.out (by simp)).but hb2 (by simp)) hxl HXB.out).mono ?_
    rintro e w3 ⟨rfl, hS3, g, hg3, hb3⟩
    exact ⟨rfl, ⟨hS3, g, hg3, (hb2.mono (by simp)).trans hb3 (fun x hx => .inl hx)⟩, [g], hb3, (by have := hg3.2; have := HB1.out.size; simp; omega), (by have := hg3.2; have := HB1.out.size; simp; omega)⟩
  rintro e w' ⟨rfl, w3, hR3, hb4⟩
  obtain ⟨hS3, g, hg3, hb3⟩ := hR3
  have HP : Hid (ArrS w' ok A size (rows.set j (splice r k xs)) ∧ ∃ g, ok g ∧ But [g] w w') := Lib.hid ⟨(hS3.keep hb4 (fun x hx hk => by have h1 := HB1.out.size; have h2 := hk.2; simp at hx; omega)).also (fun b _ h => h.1), g, hg3.1, ((HB1.out.mono (by simp)).trans hb3 (fun x hx => .inl hx)).trans hb4 (fun x hx => .inr (by have := HB1.out.size; simp at hx; omega))⟩
  clear hS3 hg3 hb3 hb4
  go_wp2_with fail
  go_ret
  exact ⟨rfl, HP.out⟩
set_option maxHeartbeats 1000000 in
theorem value_ok {w : World} {ok : Nat → Prop} {A size : Nat} {rows : List (List Value)} (h : ArrS w ok A size rows) (j : Nat) (r : List Value) (hr : rows[j]? = some r) : Calls Tryz.prog 10 #[.pointer (some ⟨A, 0, none⟩), .int .i64 j] w fun e w' => ∃ a c, e = .returned (.tuple #[.slice a size c, .int .i64 0]) ∧ OwnQ w' 5 (.slice a size c) r ∧ (∀ b, (Value.slice a size c).ownBlock = some b → w.heap.size ≤ b) ∧ But [] w w' := by
  have H := Lib.hid h
  clear h
  have HR := Lib.hid hr
  clear hr
  have hmf : ∀ (fn : Fn) (first cap : Array Value) (w : World), (Instr.makeFunc fn first cap).run Tryz.prog w = .ok (.func fn first cap) w := fun _ _ _ _ => rfl
  obtain ⟨w1, hw1⟩ : ∃ w1, w1 = ((w.alloc (.cells #[.pointer (some ⟨A, 0, none⟩)] 28)).alloc (.cells #[.int .i64 j] 3)) := ⟨_, rfl⟩
  have hb1 : But [] w w1 := by rw [hw1]; exact ((But.refl [] w).alloc _).alloc _
  have g0 : w1.heap[w.heap.size]? = some (.cells #[.pointer (some ⟨A, 0, none⟩)] 28) := by rw [hw1]; exact al_keep (al_at w _) _
  have g1 : w1.heap[w.heap.size + 1]? = some (.cells #[.int .i64 j] 3) := by rw [hw1]; exact al_eq _ _ _ (by rw [size_alloc])
  have HW := Lib.hid hw1
  have HB1 := Lib.hid hb1
  have G0 := Lib.hid g0
  have G1 := Lib.hid g1
  clear hw1 hb1 g0 g1
  go_enter Tryz.func10, Tryz.ntmps10
  go_wp2_with fail
  rw [← HW.out]
  refine (triedSX 33 #[.pointer (some ⟨w.heap.size, 0, none⟩), .pointer (some ⟨w.heap.size + 1, 0, none⟩)] w1 (fun args w => by kernel_rfl)  (fun a n c w3 => n = size ∧ OwnQ w3 5 (.slice a size c) r ∧ (∀ b, (Value.slice a size c).ownBlock = some b → w1.heap.size + 2 ≤ b) ∧ But [] w1 w3) (fun w2 hb2 hz2 => ?_)).mono ?_
  · refine (value1_ok ((H.out.keep HB1.out (by simp)).keep hb2 (by simp)) j r HR.out (cl_of (hb2.heap G0.out (by simp)) 0) (cl_of (hb2.heap G1.out (by simp)) 0)).mono ?_
    rintro e w3 ⟨av, cv, rfl, ho3, hn3, hb3⟩
    exact ⟨av, size, cv, rfl, ⟨rfl, ho3, (fun b hb => by have := hn3 b hb; omega), hb2.trans hb3 (by simp)⟩, [], hb3, by simp, by simp⟩
  rintro e w' ⟨av, nv, cv, rfl, w3, ⟨rfl, ho3, hn3, hb3⟩, hb4⟩
  have HP : Hid (OwnQ w' 5 (.slice av nv cv) r ∧ (∀ b, (Value.slice av nv cv).ownBlock = some b → w.heap.size ≤ b) ∧ But [] w w') := Lib.hid ⟨ho3.but hb4 (fun b hb hm => by have := hn3 b hb; simp at hm; omega), fun b hb => by have := hn3 b hb; have := HB1.out.size; omega, (HB1.out.trans hb3 (by simp)).trans hb4 (fun x hx => .inr (by have := HB1.out.size; simp at hx; omega))⟩
  clear ho3 hn3 hb3 hb4
  go_wp2_with fail
  go_ret2
  exact ⟨_, _, rfl, HP.out⟩
end Go.Proofs.YtkgoblpddjpcnaaGreat.M
