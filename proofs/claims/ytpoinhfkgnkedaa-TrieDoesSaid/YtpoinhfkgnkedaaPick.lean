/-
  The contract of hatchwaykit.Pick.
-/
import Derived.Test.YtpoinhfkgnkedaaSame
namespace Go.Proofs.Ytpoinhfkgnkedaa.M
open Go.RowKit
set_option linter.unusedVariables false
set_option linter.unusedSectionVars false
set_option linter.unusedSimpArgs false
theorem tmod_neg {x n : Int} (h1 : 1 ≤ n) (hx : x < 0) : -n < x.tmod n ∧ x.tmod n ≤ 0 ∧ (x.tmod n < 0 → x.tmod n + n = x % n) ∧ (x.tmod n = 0 → x % n = 0) := by
  have e : x.tmod n = -((-x) % n) := by
    have h0 : (-x).tmod n = (-x) % n := Int.tmod_eq_emod_of_nonneg (by omega)
    rw [Int.neg_tmod] at h0
    omega
  have h2 := Int.emod_nonneg (-x) (show n ≠ 0 by omega)
  have h3 := Int.emod_lt_of_pos (-x) (show 0 < n by omega)
  rw [e]
  refine ⟨by omega, by omega, fun h => ?_, fun h => ?_⟩
  · have e2 : x % n = (-((-x) % n) + n) % n := by
      have h4 := Int.mul_ediv_add_emod (-x) n
      have h5 : x = (-((-x) % n) + n) + n * (-((-x) / n) - 1) := by
        have e1 : n * (-((-x) / n) - 1) = -(n * ((-x) / n)) - n := by rw [Int.mul_sub, Int.mul_neg, Int.mul_one]
        rw [e1]
        generalize n * ((-x) / n) = m at h4 ⊢
        omega
      conv => lhs; rw [h5]
      rw [Int.add_mul_emod_self_left]
    rw [e2]
    exact (Int.emod_eq_of_lt (by omega) (by omega)).symm
  · have h4 : (-x) % n = 0 := by omega
    have h5 := Int.emod_emod_of_dvd x (Int.dvd_refl n)
    have h6 : n ∣ x := (Int.dvd_neg).1 (Int.dvd_of_emod_eq_zero h4)
    exact Int.emod_eq_zero_of_dvd h6
theorem ret_int {k : IntKind} {a b : Int} (h : a = b) : Ending.returned (.int k a) = .returned (.int k b) := by rw [h]
theorem pick (x n : Int) (w : World) (h1 : 1 ≤ n) (h2 : n ≤ 1000000000) (hx : -9223372036854775808 ≤ x) (hx2 : x ≤ 9223372036854775807) :
    Calls Try.prog 10 #[.int .i64 x, .int .i64 n] w fun e w' => e = .returned (.int .i64 (x % n)) ∧ w = w' := by
  have HX := Lib.hid hx
  have HX2 := Lib.hid hx2
  clear hx hx2
  by_cases h0 : 0 ≤ x
  · have h3 := Int.emod_nonneg x (show n ≠ 0 by omega)
    have h4 := Int.emod_lt_of_pos x (show 0 < n by omega)
    go_enter Try.func10, Try.ntmps10
    go_wp2
    go_ret
    exact ⟨rfl, rfl⟩
  · obtain ⟨h3, h4, h5, h6⟩ := tmod_neg h1 (show x < 0 by omega)
    by_cases h7 : x.tmod n < 0
    · have H5 := Lib.hid (h5 h7)
      have hw : IntKind.i64.wrap (x.tmod n) = x.tmod n := IntWalk.i64_in _ (by omega)
      have hw2 : wrap64 (x.tmod n) = x.tmod n := IntWalk.wrap64_in _ (by omega)
      clear h5 h6
      go_enter Try.func10, Try.ntmps10
      go_wp2
      go_ret
      exact ⟨ret_int H5.out, rfl⟩
    · have H6 := Lib.hid (h6 (by omega))
      have hw : IntKind.i64.wrap (x.tmod n) = x.tmod n := IntWalk.i64_in _ (by omega)
      have hw2 : wrap64 (x.tmod n) = x.tmod n := IntWalk.wrap64_in _ (by omega)
      have h8 : 0 ≤ x.tmod n := by omega
      have H9 : Hid (x.tmod n = 0) := Lib.hid (by omega)
      clear h5 h6
      go_enter Try.func10, Try.ntmps10
      go_wp2
      go_ret
      exact ⟨ret_int (by rw [H6.out]; exact H9.out), rfl⟩
end Go.Proofs.Ytpoinhfkgnkedaa.M
