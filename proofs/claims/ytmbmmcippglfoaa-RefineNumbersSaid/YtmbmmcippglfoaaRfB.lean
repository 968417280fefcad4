/-
  The reference: hatchwayref17.Range.
-/
import Derived.Test.YtmbmmcippglfoaaRfA
namespace Go.Proofs.Ytmbmmcippglfoaa.M
open Go.RowKit Go.Shelf
set_option linter.unusedVariables false
set_option linter.unusedSectionVars false
set_option linter.unusedSimpArgs false
theorem bit_eq (n i : Nat) : (bits .and .u64 ((n : Int) / 2 ^ i) 1 == 1) = n.testBit i := by
  have h1 : ((n : Int) / 2 ^ i) = ((n / 2 ^ i : Nat) : Int) := by push_cast; rfl
  have h2 := bits_and (n / 2 ^ i) 1
  rw [h1, show (1 : Int) = ((1 : Nat) : Int) from rfl, h2, Nat.testBit_eq_decide_div_mod_eq]
  unfold uand
  rw [Nat.and_one_is_mod, Bool.eq_iff_iff, beq_iff_eq, decide_eq_true_eq]
  omega
set_option maxHeartbeats 1000000 in
theorem bit17_c (n i : Nat) (w : World) (hi : i < 64) : Calls Try.prog 82 #[.int .u64 n, .int .i64 i] w fun e w' => e = .returned (.bool (n.testBit i)) ∧ w = w' := by
  have HE := Lib.hid (bit_eq n i)
  go_enter Try.func82, Try.ntmps82
  go_wp2
  go_ret
  exact ⟨by rw [← HE.out]; rfl, rfl⟩
theorem range_at {lo hi j : Nat} (hlo : lo < 18446744073709551616) (hhi : hi < 18446744073709551616) (hj : j < 64) (heq : ∀ k, j + 1 ≤ k → k < 64 → lo.testBit k = hi.testBit k) (hne : lo.testBit j ≠ hi.testBit j) : lenX lo hi = j + 1 := by
  have h1 : uxor lo hi < 2 ^ (j + 1) := by
    refine Nat.lt_pow_two_of_testBit _ (fun i hi' => ?_)
    rw [bit_uxor]
    by_cases h : i < 64
    · rw [heq i hi' h]; simp
    · simp [h]
  have h2 : (uxor lo hi).testBit j = true := by
    rw [bit_uxor]
    revert hne
    cases lo.testBit j <;> cases hi.testBit j <;> simp [hj]
  have h3 : 2 ^ j ≤ uxor lo hi := by
    cases Nat.lt_or_ge (uxor lo hi) (2 ^ j) with
    | inl h => rw [Nat.testBit_lt_two_pow h] at h2; cases h2
    | inr h => exact h
  have h4 : lenX lo hi ≤ j + 1 := bitLen_of_lt (by omega) h1
  have h5 := lt_bitLen (uxor_lt lo hi)
  have h6 : 2 ^ j < 2 ^ lenX lo hi := Nat.lt_of_le_of_lt h3 h5
  have h7 : j < lenX lo hi := (Nat.pow_lt_pow_iff_right (by decide)).1 h6
  omega
theorem low_mask : ∀ j : Fin 64, (((1 * 2 ^ j.val % 18446744073709551616) * 2 % 18446744073709551616) + 18446744073709551615) % 18446744073709551616 = maskN (j.val + 1) := by decide +kernel
theorem mask_int (j M : Nat) (h : (((1 * 2 ^ j % 18446744073709551616) * 2 % 18446744073709551616) + 18446744073709551615) % 18446744073709551616 = M) : IntKind.u64.wrap (IntKind.u64.wrap (IntKind.u64.wrap (2 ^ j) * 2) - 1) = (M : Int) := by
  have hx : ((2 : Int) ^ j) = ((2 ^ j : Nat) : Int) := by push_cast; rfl
  rw [IntKind.wrap_u64, IntKind.wrap_u64, IntKind.wrap_u64, hx]
  generalize (2 ^ j : Nat) = x at *
  omega
set_option maxRecDepth 100000 in
set_option maxHeartbeats 2000000 in
theorem r17Range (lo hi : Nat) (w : World) (hlo : lo < 18446744073709551616) (hhi : hi < 18446744073709551616) (h : lo ≤ hi) : Calls Try.prog 45 #[.int .u64 lo, .int .u64 hi] w fun e w' => e = .returned (rangeT lo hi).val ∧ But [] w w' := by
  have HL := Lib.hid hlo
  have HH := Lib.hid hhi
  have hnl : ¬ hi < lo := by omega
  have HLE := Lib.hid h
  clear hlo hhi h
  go_enter Try.func45, Try.ntmps45
  go_wp2_with fail
  go_loop [6] (fun i => ∃ j : Nat, j ≤ 64 ∧ i = .int .i64 ((j : Int) - 1) ∧ ∀ k, j ≤ k → k < 64 → lo.testBit k = hi.testBit k) (fun i => (intOf i + 1).toNat)
  case atStart => exact ⟨64, by omega, by simp, fun k h1 h2 => by omega⟩
  case round =>
    obtain ⟨j, hj, rfl, hk⟩ := hrel
    have HK := Lib.hid hk
    clear hk
    cases j with
    | zero =>
      have he : lo = hi := eq_of_bits HL.out HH.out (fun i hi => HK.out i (Nat.zero_le _) hi)
      subst he
      have HR : Hid (rangeT lo lo = ⟨lo, 0⟩) := Lib.hid (by rw [undn_zero_self, undn_self lo HL.out])
      clear HK
      go_wp2_with fail
      exact bodyPost_ret (v := .agg #[.int .u64 lo, .int .u64 0]) (by simp [results, Try.results45, go_sem]) rfl ⟨by rw [HR.out]; rfl, by repeat (first | with_reducible exact But.refl _ _ | with_reducible refine But.alloc ?_ _)⟩
    | succ j =>
      have hj64 : j < 64 := by omega
      have hjj : ((j + 1 : Nat) : Int) - 1 = (j : Int) := by omega
      rw [hjj]
      have HB1 := Lib.hid (fun w => bit17_c lo j w hj64)
      have HB2 := Lib.hid (fun w => bit17_c hi j w hj64)
      cases hb : (lo.testBit j == hi.testBit j) with
      | false =>
        have hne : lo.testBit j ≠ hi.testBit j := by simpa using hb
        have HN : Hid (rangeT lo hi = ⟨undn lo (maskN (j + 1)), maskN (j + 1)⟩) := Lib.hid (by unfold rangeT; rw [range_at HL.out HH.out hj64 HK.out hne])
        clear HK hne
        have hm0 : (((1 * 2 ^ j % 18446744073709551616) * 2 % 18446744073709551616) + 18446744073709551615) % 18446744073709551616 = maskN (j + 1) := low_mask ⟨j, hj64⟩
        obtain ⟨M, hM⟩ : ∃ M, M = maskN (j + 1) := ⟨_, rfl⟩
        rw [← hM] at HN hm0
        have hmk : IntKind.u64.wrap (IntKind.u64.wrap (IntKind.u64.wrap (2 ^ j) * 2) - 1) = (M : Int) := mask_int j M hm0
        have hj0 : (j : Int) < 64 := by omega
        clear hj hj64 hjj hM hm0
        go_wp2_with fail
        refine (HB1.out _).mono ?_
        rintro e w8 ⟨rfl, rfl⟩
        go_wp2_with fail
        refine (HB2.out _).mono ?_
        rintro e w8 ⟨rfl, rfl⟩
        go_wp2_with fail
        exact bodyPost_ret (v := .agg #[.int .u64 ((undn lo M : Nat) : Int), .int .u64 ((M : Nat) : Int)]) (by simp [results, Try.results45, go_sem]) rfl ⟨by rw [HN.out]; rfl, by repeat (first | with_reducible exact But.refl _ _ | with_reducible refine But.alloc ?_ _)⟩
      | true =>
        have HEQ : Hid (lo.testBit j = hi.testBit j) := Lib.hid (by simpa using hb)
        have HJ := Lib.hid hj64
        have hj0 : (j : Int) < 64 := by omega
        clear hj hj64 hjj
        go_wp2_with fail
        refine (HB1.out _).mono ?_
        rintro e w8 ⟨rfl, rfl⟩
        go_wp2_with fail
        refine (HB2.out _).mono ?_
        rintro e w8 ⟨rfl, rfl⟩
        go_wp2_with fail
        go_round
        case rel => exact ⟨j, by have := HJ.out; omega, rfl, fun k h1 h2 => by
          by_cases h : k = j
          · subst h; exact HEQ.out
          · exact HK.out k (by omega) h2⟩
        case measure => simp [intOf]
end Go.Proofs.Ytmbmmcippglfoaa.M
