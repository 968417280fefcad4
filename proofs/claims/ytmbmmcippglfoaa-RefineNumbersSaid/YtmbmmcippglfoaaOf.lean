/-
  scalar.Of.
-/
import Derived.Test.YtmbmmcippglfoaaTogether
import Derived.Test.YtmbmmcippglfoaaGC
namespace Go.Proofs.Ytmbmmcippglfoaa.M
open Go.RowKit Go.Shelf
set_option linter.unusedVariables false
set_option linter.unusedSectionVars false
set_option linter.unusedSimpArgs false
/-- What Of has laid. -/
structure OfAt (w : World) (s : Sp) (st : Sc) (W : World) : Prop where
  sp : W.heap[w.heap.size + 1]? = some (.cells #[.int .u64 s.lo, .int .u64 s.hi, .int .i64 s.sl, .int .i64 s.sh] 26)
  res : W.heap[w.heap.size + 1 + 1]? = some (.cells #[.int .u64 0, .int .u64 0, .int .u64 0, .int .u64 0, .int .i64 0, .int .i64 0] 28)
  wk : WkAt W (w.heap.size + 1 + 1 + 1) st
  but : But [] w W
theorem OfAt.next {w V W : World} {s : Sp} {st st' : Sc} {L : List Nat} (h : OfAt w s st V) (hb : But L V W) (hL : ∀ x ∈ L, x = w.heap.size + 1 + 1 + 1) (hw : WkAt W (w.heap.size + 1 + 1 + 1) st') : OfAt w s st' W :=
  ⟨hb.heap h.sp (fun hm => by have := hL _ hm; omega), hb.heap h.res (fun hm => by have := hL _ hm; omega), hw, h.but.trans hb (fun x hx => .inr (by have := hL x hx; omega))⟩
theorem ofAt_first (w W : World) (v m lo hi : Nat) (sl sh : Int) (t : TypeId) (hb : But [] ((((w.alloc (.cells #[.int .u64 v, .int .u64 m] t)).alloc (.cells #[.int .u64 lo, .int .u64 hi, .int .i64 sl, .int .i64 sh] 26)).alloc (.cells #[.int .u64 0, .int .u64 0, .int .u64 0, .int .u64 0, .int .i64 0, .int .i64 0] 28)).alloc (.cells (scCells ⟨⟨v, m⟩, ⟨lo, hi, sl, sh⟩⟩) 94)) W) : OfAt w ⟨lo, hi, sl, sh⟩ ⟨⟨v, m⟩, ⟨lo, hi, sl, sh⟩⟩ W :=
  ⟨hb.heap (al_keep (al_keep (al_eq _ _ _ (by simp only [size_alloc])) _) _) (by simp), hb.heap (al_keep (al_eq _ _ _ (by simp only [size_alloc])) _) (by simp), hb.heap (al_eq _ _ _ (by simp only [size_alloc])) (by simp), (((((But.refl [] w).alloc _).alloc _).alloc _).alloc _).trans hb (by simp)⟩
set_option maxRecDepth 100000 in
set_option maxHeartbeats 4000000 in
theorem scOf_t (v m lo hi : Nat) (sl sh : Int) (w : World) (hr : Rg ⟨⟨v, m⟩, ⟨lo, hi, sl, sh⟩⟩) (hT : tnR ⟨v, m⟩ = false) : Calls Try.prog 30 #[.agg #[.int .u64 v, .int .u64 m], .agg #[.int .u64 lo, .int .u64 hi, .int .i64 sl, .int .i64 sh]] w fun e w' => e = .returned (.tuple #[((ofT ⟨⟨v, m⟩, ⟨lo, hi, sl, sh⟩⟩).getD zeroSc).val, .bool (ofT ⟨⟨v, m⟩, ⟨lo, hi, sl, sh⟩⟩).isSome]) ∧ But [] w w' := by
  clear hr
  have HO : Hid (ofT ⟨⟨v, m⟩, ⟨lo, hi, sl, sh⟩⟩ = none) := Lib.hid (by simp [ofT, hT])
  have HTR := Lib.hid (fun w => tnRight v m w)
  rw [hT] at HTR
  clear hT
  go_enter Try.func30, Try.ntmps30
  go_wp2_with fail
  refine (HTR.out _).mono ?_
  rintro e w5 ⟨rfl, hb5⟩
  have hA := ofAt_first w w5 v m lo hi sl sh _ hb5
  obtain ⟨c0, c1, c2, c3, c4, c5⟩ := c6_of hA.res
  have f0 := fz_of hA.res 0
  have f1 := fz_of hA.res 1
  have f2 := fz_of hA.res 2
  have f3 := fz_of hA.res 3
  have f4 := fz_of hA.res 4
  have f5 := fz_of hA.res 5
  have HA := Lib.hid hA
  clear hb5 hA
  go_wp2_with fail
  exact bodyPost_ret (v := .tuple #[.agg #[.int .u64 0, .int .u64 0, .int .u64 0, .int .u64 0, .int .i64 0, .int .i64 0], .bool false]) (by simp [results, Try.results30, go_sem, c0, c1, c2, c3, c4, c5]) rfl ⟨by rw [HO.out]; rfl, by
    have hb := HA.out.but
    repeat (first | refine But.setCell ?_ (.inr (by simp only []; omega)) _ | exact hb)⟩
set_option maxRecDepth 100000 in
set_option maxHeartbeats 4000000 in
theorem scOf_s (v m lo hi : Nat) (sl sh : Int) (w : World) (hr : Rg ⟨⟨v, m⟩, ⟨lo, hi, sl, sh⟩⟩) (hT : tnR ⟨v, m⟩ = true) (hS : spR ⟨lo, hi, sl, sh⟩ = false) : Calls Try.prog 30 #[.agg #[.int .u64 v, .int .u64 m], .agg #[.int .u64 lo, .int .u64 hi, .int .i64 sl, .int .i64 sh]] w fun e w' => e = .returned (.tuple #[((ofT ⟨⟨v, m⟩, ⟨lo, hi, sl, sh⟩⟩).getD zeroSc).val, .bool (ofT ⟨⟨v, m⟩, ⟨lo, hi, sl, sh⟩⟩).isSome]) ∧ But [] w w' := by
  have HO : Hid (ofT ⟨⟨v, m⟩, ⟨lo, hi, sl, sh⟩⟩ = none) := Lib.hid (by simp [ofT, hT, hS])
  clear hr
  have HTR := Lib.hid (fun w => tnRight v m w)
  rw [hT] at HTR
  have HSR := Lib.hid (fun w => spRight lo hi sl sh w)
  rw [hS] at HSR
  clear hT hS
  go_enter Try.func30, Try.ntmps30
  go_wp2_with fail
  refine (HTR.out _).mono ?_
  rintro e w5 ⟨rfl, hb5⟩
  have hA := ofAt_first w w5 v m lo hi sl sh _ hb5
  obtain ⟨a0, a1, a2, a3⟩ := c4_of hA.sp
  have HA5 := Lib.hid hA
  clear hb5 hA
  go_wp2_with fail
  refine (HSR.out _).mono ?_
  rintro e w6 ⟨rfl, hb6⟩
  have hA := HA5.out.next hb6 (by simp) (hb6.heap HA5.out.wk (by simp))
  obtain ⟨c0, c1, c2, c3, c4, c5⟩ := c6_of hA.res
  have f0 := fz_of hA.res 0
  have f1 := fz_of hA.res 1
  have f2 := fz_of hA.res 2
  have f3 := fz_of hA.res 3
  have f4 := fz_of hA.res 4
  have f5 := fz_of hA.res 5
  have HA := Lib.hid hA
  clear hb6 hA a0 a1 a2 a3
  go_wp2_with fail
  exact bodyPost_ret (v := .tuple #[.agg #[.int .u64 0, .int .u64 0, .int .u64 0, .int .u64 0, .int .i64 0, .int .i64 0], .bool false]) (by simp [results, Try.results30, go_sem, c0, c1, c2, c3, c4, c5]) rfl ⟨by rw [HO.out]; rfl, by
    have hb := HA.out.but
    repeat (first | refine But.setCell ?_ (.inr (by simp only []; omega)) _ | exact hb)⟩
set_option maxRecDepth 100000 in
set_option maxHeartbeats 4000000 in
theorem scOf_n (v m lo hi : Nat) (sl sh : Int) (w : World) (hr : Rg ⟨⟨v, m⟩, ⟨lo, hi, sl, sh⟩⟩) (hT : tnR ⟨v, m⟩ = true) (hS : spR ⟨lo, hi, sl, sh⟩ = true) (hg : tog ⟨⟨v, m⟩, ⟨lo, hi, sl, sh⟩⟩ = none) : Calls Try.prog 30 #[.agg #[.int .u64 v, .int .u64 m], .agg #[.int .u64 lo, .int .u64 hi, .int .i64 sl, .int .i64 sh]] w fun e w' => e = .returned (.tuple #[((ofT ⟨⟨v, m⟩, ⟨lo, hi, sl, sh⟩⟩).getD zeroSc).val, .bool (ofT ⟨⟨v, m⟩, ⟨lo, hi, sl, sh⟩⟩).isSome]) ∧ But [] w w' := by
  have hwf : Wf ⟨⟨v, m⟩, ⟨lo, hi, sl, sh⟩⟩ := by
    simp only [spR, Bool.and_eq_true, decide_eq_true_eq] at hS
    exact ⟨hr.v, hr.m, hS.1, hr.hi, hS.2, hr.sl, hr.sh⟩
  have hof : ofT ⟨⟨v, m⟩, ⟨lo, hi, sl, sh⟩⟩ = tog ⟨⟨v, m⟩, ⟨lo, hi, sl, sh⟩⟩ := by simp [ofT, hT, hS]
  have HOF := Lib.hid hof
  have HTG := Lib.hid (fun (B : Nat) (w : World) (hB : WkAt w B ⟨⟨v, m⟩, ⟨lo, hi, sl, sh⟩⟩) => callsIn_wide.1 (together_w 3 (Nat.le_refl _) B _ w hB hwf))
  clear hr hof hwf
  have HO : Hid (ofT ⟨⟨v, m⟩, ⟨lo, hi, sl, sh⟩⟩ = none) := Lib.hid (by rw [HOF.out, hg])
  rw [hg] at HTG
  have HTR := Lib.hid (fun w => tnRight v m w)
  rw [hT] at HTR
  have HSR := Lib.hid (fun w => spRight lo hi sl sh w)
  rw [hS] at HSR
  clear hg
  clear hT hS
  go_enter Try.func30, Try.ntmps30
  go_wp2_with fail
  refine (HTR.out _).mono ?_
  rintro e w5 ⟨rfl, hb5⟩
  have hA := ofAt_first w w5 v m lo hi sl sh _ hb5
  obtain ⟨a0, a1, a2, a3⟩ := c4_of hA.sp
  have HA5 := Lib.hid hA
  clear hb5 hA
  go_wp2_with fail
  refine (HSR.out _).mono ?_
  rintro e w6 ⟨rfl, hb6⟩
  have hA := HA5.out.next hb6 (by simp) (hb6.heap HA5.out.wk (by simp))
  have HA6 := Lib.hid hA
  clear hb6 hA a0 a1 a2 a3
  go_wp2_with fail
  refine (HTG.out _ _ HA6.out.wk).mono ?_
  rintro e w7 ⟨rfl, _, hb7⟩
  have hA : OfAt w ⟨lo, hi, sl, sh⟩ zeroSc w7 → True := fun _ => trivial
  have hres : w7.heap[w.heap.size + 1 + 1]? = _ := hb7.heap HA6.out.res (by simp)
  have hbut : But [] w w7 := HA6.out.but.trans hb7 (fun x hx => .inr (by simp at hx; omega))
  obtain ⟨c0, c1, c2, c3, c4, c5⟩ := c6_of hres
  have f0 := fz_of hres 0
  have f1 := fz_of hres 1
  have f2 := fz_of hres 2
  have f3 := fz_of hres 3
  have f4 := fz_of hres 4
  have f5 := fz_of hres 5
  have HA := Lib.hid hbut
  clear hb7 hA hres hbut
  simp only [Option.isSome]
  go_wp2_with fail
  exact bodyPost_ret (v := .tuple #[.agg #[.int .u64 0, .int .u64 0, .int .u64 0, .int .u64 0, .int .i64 0, .int .i64 0], .bool false]) (by simp [results, Try.results30, go_sem, c0, c1, c2, c3, c4, c5]) rfl ⟨by rw [HO.out]; rfl, by
    have hb := HA.out
    repeat (first | refine But.setCell ?_ (.inr (by simp only []; omega)) _ | exact hb)⟩
end Go.Proofs.Ytmbmmcippglfoaa.M
