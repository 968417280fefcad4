/-
  hatchwaykit.SameRows: are two slices' rows of bytes the same?
-/
import Derived.Test.YtifgfnifadmoaaaKeysT
namespace Go.Proofs.Ytifgfnifadmoaaa.M
open Go.RowKit
set_option linter.unusedVariables false
set_option linter.unusedSectionVars false
set_option linter.unusedSimpArgs false
theorem row_at2 {w : World} {oa : Option Addr} {n oc : Nat} {rows : List (List Int)} (h : SeesRows w (.slice oa n oc) (rows.map u8s)) : n = rows.length ∧ ∀ (i : Nat) (r : List Int), rows[i]? = some r → ∃ ad a c, oa = some ad ∧ w.cell? (ad.add i) = some (.slice a r.length c) ∧ Sees w (.slice a r.length c) (u8s r) := by
  obtain ⟨vals, h1, h2, h3⟩ := h
  obtain ⟨a', c', e, hx⟩ := sees_shape h1
  simp only [Value.slice.injEq] at e
  obtain ⟨rfl, rfl, rfl⟩ := e
  rw [List.length_map] at h2
  refine ⟨h2, fun i r hr => ?_⟩
  have hi : i < vals.length := by rw [h2]; exact (List.getElem?_eq_some_iff.1 hr).1
  have hv := List.getElem?_eq_getElem hi
  obtain ⟨ad, rfl, hc⟩ := hx i _ hv
  have hs := h3 i _ _ hv (by rw [List.getElem?_map, hr]; rfl)
  obtain ⟨a, c, e2, _⟩ := sees_shape hs
  rw [u8s_len] at e2
  rw [e2] at hc hs
  exact ⟨ad, a, c, rfl, hc, hs⟩
theorem sr_nums {j n : Nat} (h : j < n) (hn : n ≤ 1048576) : (0 : Int) ≤ j ∧ (j : Int) < n ∧ wrap64 ((j : Int) + 1) = (j : Int) + 1 ∧ IntKind.i64.wrap ((j : Int) + 1) = (j : Int) + 1 := by
  refine ⟨by omega, by omega, ?_, ?_⟩
  · rw [wrap64]; omega
  · rw [IntKind.wrap_i64]; omega
theorem sr_meas {j n : Nat} (h : j < n) : n - (intOf (.int .i64 ((j : Int) + 1))).toNat < n - (intOf (.int .i64 (j : Int))).toNat := by
  simp only [intOf]
  omega
theorem take_ne {X Y : List (List Int)} {k : Nat} {x y : List Int} (hx : X[k]? = some x) (hy : Y[k]? = some y) (hne : x ≠ y) : X ≠ Y := fun e => by
  rw [e, hy] at hx
  exact hne (Option.some.inj hx).symm
set_option maxRecDepth 100000 in
set_option maxHeartbeats 4000000 in
theorem sameRows (a b : Option Addr) (c d : Nat) (X Y : List (List Int)) (w : World) (hs : SeesRows w (.slice a X.length c) (X.map u8s)) (ht : SeesRows w (.slice b Y.length d) (Y.map u8s)) (hl : ∀ r ∈ X, r.length ≤ 1000000000000) (hn : X.length ≤ 1048576) :
    Calls Try.prog 16 #[.slice a X.length c, .slice b Y.length d] w fun e w' => e = .returned (.bool (decide (X = Y))) ∧ But [] w w' := by
  have HX := Lib.hid (row_at2 hs).2
  have HY := Lib.hid (row_at2 ht).2
  have HL := Lib.hid hl
  clear hs ht hl
  by_cases hlen : X.length = Y.length
  · rw [← hlen]
    have HLN := Lib.hid hlen
    have HN := Lib.hid hn
    clear hlen
    go_enter Try.func16, Try.ntmps16
    go_wp2_with fail
    go_loopw [5] (fun i wr => ∃ k : Nat, k ≤ X.length ∧ i = .int .i64 k ∧ X.take k = Y.take k ∧ But [] w wr) (fun i _ => X.length - (intOf i).toNat)
    case atStart => exact ⟨0, Nat.zero_le _, rfl, by simp, But.refl _ _⟩
    case round =>
      obtain ⟨k, hk, rfl, heq, hbut⟩ := hrel
      have HB := Lib.hid hbut
      have HE := Lib.hid heq
      clear hbut heq
      by_cases hlt : k < X.length
      · obtain ⟨hk0, hk1, hw1, hw2⟩ := sr_nums hlt HN.out
        obtain ⟨x, hxk⟩ : ∃ x, X[k]? = some x := ⟨_, List.getElem?_eq_getElem hlt⟩
        obtain ⟨y, hyk⟩ : ∃ y, Y[k]? = some y := ⟨_, List.getElem?_eq_getElem (by have := HLN.out; omega)⟩
        obtain ⟨ad, xa, xc, rfl, hcx, hsx⟩ := HX.out k x hxk
        obtain ⟨bd, ya, yc, rfl, hcy, hsy⟩ := HY.out k y hyk
        have h1 : wr.cell? (ad.add k) = some (.slice xa x.length xc) := cell_but HB.out hcx (by simp)
        have h2 : wr.cell? (bd.add k) = some (.slice ya y.length yc) := cell_but HB.out hcy (by simp)
        have HXK := Lib.hid hxk
        have HYK := Lib.hid hyk
        have HLT := Lib.hid hlt
        have HSM := Lib.hid (same _ _ x y wr.drew (hsx.but HB.out.drew (by simp)) (hsy.but HB.out.drew (by simp)) (HL.out x (List.mem_of_getElem? hxk)))
        clear hcx hcy hsx hsy hxk hyk hlt
        by_cases hxy : x = y
        · subst hxy
          rw [decide_eq_true rfl] at HSM
          go_wp2_with fail
          refine wp_region_tail9 8 (by kernel_rfl) (by kernel_rfl) ?_
          simp only [List.take_succ_cons, List.take_zero, List.drop_succ_cons, List.drop_zero]
          repeat still_step
          refine wpStill_nil ?_
          go_wp2_with fail
          refine HSM.out.mono ?_
          rintro e w2 ⟨rfl, hb2⟩
          have HB2 := Lib.hid (HB.out.drew.trans hb2 (by simp))
          clear hb2 h1 h2 HSM
          go_wp2_with fail
          go_roundw
          case rel => exact ⟨k + 1, HLT.out, by go_num, by rw [List.take_add_one, List.take_add_one, HE.out, HXK.out, HYK.out], HB2.out⟩
          case measure => first | exact sr_meas HLT.out | exact (by rw [hw1]; exact sr_meas HLT.out)
        · rw [decide_eq_false hxy] at HSM
          have hXY : decide (X = Y) = false := decide_eq_false (take_ne HXK.out HYK.out hxy)
          have HXY := Lib.hid hXY
          clear hxy hXY
          go_wp2_with fail
          refine wp_region_tail9 8 (by kernel_rfl) (by kernel_rfl) ?_
          simp only [List.take_succ_cons, List.take_zero, List.drop_succ_cons, List.drop_zero]
          repeat still_step
          refine wpStill_nil ?_
          go_wp2_with fail
          refine HSM.out.mono ?_
          rintro e w2 ⟨rfl, hb2⟩
          have HB2 := Lib.hid (HB.out.drew.trans hb2 (by simp))
          clear hb2 h1 h2 HSM
          go_wp2_with fail
          go_ret
          exact ⟨(congrArg (fun b => Ending.returned (Value.bool b)) HXY.out.symm), HB2.out⟩
      · obtain rfl : k = X.length := num_eq hk hlt
        have hXY : decide (X = Y) = true := decide_eq_true (by
          have h1 := HE.out
          rw [List.take_length, HLN.out, List.take_length] at h1
          exact h1)
        have HXY := Lib.hid hXY
        clear hXY hlt hk
        go_wp2_with fail
        go_ret
        exact ⟨(congrArg (fun b => Ending.returned (Value.bool b)) HXY.out.symm), HB.out⟩
  · have hXY : decide (X = Y) = false := decide_eq_false (fun e => hlen (by rw [e]))
    have HXY := Lib.hid hXY
    have hd : ((X.length : Int) != (Y.length : Int)) = true := by
      simp only [bne_iff_ne, ne_eq]
      omega
    clear hlen hXY
    go_enter Try.func16, Try.ntmps16
    go_wp2_with fail
    go_ret
    exact ⟨(congrArg (fun b => Ending.returned (Value.bool b)) HXY.out.symm), But.refl _ _⟩
end Go.Proofs.Ytifgfnifadmoaaa.M
