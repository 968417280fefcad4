/-
  scalar.Of: where something is left.
-/
import Derived.Test.YtmbmmcippglfoaaOf
namespace Go.Proofs.Ytmbmmcippglfoaa.M
open Go.RowKit Go.Shelf
set_option linter.unusedVariables false
set_option linter.unusedSectionVars false
set_option linter.unusedSimpArgs false
set_option maxRecDepth 100000 in
set_option maxHeartbeats 4000000 in
theorem scOf_g (v m lo hi gv gm gl gh : Nat) (sl sh gi gj : Int) (w : World) (hr : Rg ⟨⟨v, m⟩, ⟨lo, hi, sl, sh⟩⟩) (hT : tnR ⟨v, m⟩ = true) (hS : spR ⟨lo, hi, sl, sh⟩ = true) (hg : tog ⟨⟨v, m⟩, ⟨lo, hi, sl, sh⟩⟩ = some ⟨⟨gv, gm⟩, ⟨gl, gh, gi, gj⟩⟩) : Calls Try.prog 30 #[.agg #[.int .u64 v, .int .u64 m], .agg #[.int .u64 lo, .int .u64 hi, .int .i64 sl, .int .i64 sh]] w fun e w' => e = .returned (.tuple #[((ofT ⟨⟨v, m⟩, ⟨lo, hi, sl, sh⟩⟩).getD zeroSc).val, .bool (ofT ⟨⟨v, m⟩, ⟨lo, hi, sl, sh⟩⟩).isSome]) ∧ But [] w w' := by
  have hwf : Wf ⟨⟨v, m⟩, ⟨lo, hi, sl, sh⟩⟩ := by
    simp only [spR, Bool.and_eq_true, decide_eq_true_eq] at hS
    exact ⟨hr.v, hr.m, hS.1, hr.hi, hS.2, hr.sl, hr.sh⟩
  have hof : ofT ⟨⟨v, m⟩, ⟨lo, hi, sl, sh⟩⟩ = tog ⟨⟨v, m⟩, ⟨lo, hi, sl, sh⟩⟩ := by simp [ofT, hT, hS]
  have HOF := Lib.hid hof
  have HTG := Lib.hid (fun (B : Nat) (w : World) (hB : WkAt w B ⟨⟨v, m⟩, ⟨lo, hi, sl, sh⟩⟩) => callsIn_wide.1 (together_w 3 (Nat.le_refl _) B _ w hB hwf))
  clear hr hof hwf
  have HO : Hid (ofT ⟨⟨v, m⟩, ⟨lo, hi, sl, sh⟩⟩ = some ⟨⟨gv, gm⟩, ⟨gl, gh, gi, gj⟩⟩) := Lib.hid (by rw [HOF.out, hg])
  rw [hg] at HTG
  have HTR := Lib.hid (fun w => tnRight v m w)
  rw [hT] at HTR
  have HSR := Lib.hid (fun w => spRight lo hi sl sh w)
  rw [hS] at HSR
  clear hg
  clear hT hS
  go_enter Try.func30, Try.ntmps30
  go_wp2_with fail
  refine (HTR.out _).mono ?_
  rintro e w5 ⟨rfl, hb5⟩
  have hA := ofAt_first w w5 v m lo hi sl sh _ hb5
  obtain ⟨a0, a1, a2, a3⟩ := c4_of hA.sp
  have HA5 := Lib.hid hA
  clear hb5 hA
  go_wp2_with fail
  refine (HSR.out _).mono ?_
  rintro e w6 ⟨rfl, hb6⟩
  have hA := HA5.out.next hb6 (by simp) (hb6.heap HA5.out.wk (by simp))
  have HA6 := Lib.hid hA
  clear hb6 hA a0 a1 a2 a3
  go_wp2_with fail
  refine (HTG.out _ _ HA6.out.wk).mono ?_
  rintro e w7 ⟨rfl, hk7, hb7⟩
  have hwk := hk7 _ rfl
  have hA : OfAt w ⟨lo, hi, sl, sh⟩ zeroSc w7 → True := fun _ => trivial
  have hres : w7.heap[w.heap.size + 1 + 1]? = _ := hb7.heap HA6.out.res (by simp)
  have hbut : But [] w w7 := HA6.out.but.trans hb7 (fun x hx => .inr (by simp at hx; omega))
  obtain ⟨c0, c1, c2, c3, c4, c5⟩ := c6_of hres
  have f0 := fz_of hres 0
  have f1 := fz_of hres 1
  have f2 := fz_of hres 2
  have f3 := fz_of hres 3
  have f4 := fz_of hres 4
  have f5 := fz_of hres 5
  obtain ⟨k0, k1, k2, k3, k4, k5⟩ := c6_of hwk
  have HA := Lib.hid hbut
  clear hb7 hA hres hbut hwk hk7
  simp only [Option.isSome]
  go_wp2_with fail
  exact bodyPost_ret (v := .tuple #[.agg #[.int .u64 gv, .int .u64 gm, .int .u64 gl, .int .u64 gh, .int .i64 gi, .int .i64 gj], .bool true]) (by simp [results, Try.results30, go_sem, c0, c1, c2, c3, c4, c5]) rfl ⟨by rw [HO.out]; rfl, by
    have hb := HA.out
    repeat (first | refine But.setCell ?_ (.inr (by simp only []; omega)) _ | exact hb)⟩
theorem scOf (s : Sc) (w : World) (hr : Rg s) : Calls Try.prog 30 #[s.t.val, s.s.val] w fun e w' => e = .returned (.tuple #[((ofT s).getD zeroSc).val, .bool (ofT s).isSome]) ∧ But [] w w' := by
  obtain ⟨⟨v, m⟩, ⟨lo, hi, sl, sh⟩⟩ := s
  cases hT : tnR ⟨v, m⟩ with
  | false => exact scOf_t v m lo hi sl sh w hr hT
  | true =>
    cases hS : spR ⟨lo, hi, sl, sh⟩ with
    | false => exact scOf_s v m lo hi sl sh w hr hT hS
    | true =>
      cases hg : tog ⟨⟨v, m⟩, ⟨lo, hi, sl, sh⟩⟩ with
      | none => exact scOf_n v m lo hi sl sh w hr hT hS hg
      | some g =>
        obtain ⟨⟨gv, gm⟩, ⟨gl, gh, gi, gj⟩⟩ := g
        exact scOf_g v m lo hi gv gm gl gh sl sh gi gj w hr hT hS hg
end Go.Proofs.Ytmbmmcippglfoaa.M
