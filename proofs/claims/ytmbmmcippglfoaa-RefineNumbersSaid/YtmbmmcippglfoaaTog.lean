/-
  Plain: one round of the rules; rounds till nothing changes.
-/
import Derived.Test.YtmbmmcippglfoaaGB
namespace Go.Proofs.Ytmbmmcippglfoaa.M
open Go.RowKit
set_option linter.unusedVariables false
set_option linter.unusedSectionVars false
set_option linter.unusedSimpArgs false
deriving instance DecidableEq for Tn
deriving instance DecidableEq for Sp
deriving instance DecidableEq for Sc
structure Wf (s : Sc) : Prop where
  v : s.t.v < 18446744073709551616
  m : s.t.m < 18446744073709551616
  u : s.s.lo ≤ s.s.hi
  hi : s.s.hi < 18446744073709551616
  i : s.s.sl ≤ s.s.sh
  sl : -9223372036854775808 ≤ s.s.sl
  sh : s.s.sh ≤ 9223372036854775807
def mu (s : Sc) : Nat := s.t.m + (s.s.hi - s.s.lo) + (s.s.sh - s.s.sl).toNat
def rk : Nat → Sc → Sc | 0 => r1 | 1 => r2 | 2 => r3 | _ => r4
def okk : Nat → Sc → Bool | 0 => ok1 | 1 => ok2 | 2 => ok3 | _ => ok4
def stepR (i : Nat) (s : Sc) : Option Sc := if okk i s then some (rk i s) else none
def runs : List Nat → Sc → Option Sc
  | [], s => some s
  | i :: l, s => (stepR i s).bind (runs l)
def round (s : Sc) : Option Sc := runs (List.range 4) s
theorem runs_snoc (l : List Nat) (i : Nat) (s : Sc) : runs (l ++ [i]) s = (runs l s).bind (stepR i) := by
  induction l generalizing s with
  | nil => simp [runs]
  | cons j l ih =>
    simp only [List.cons_append, runs]
    cases stepR j s with
    | none => rfl
    | some s' => exact ih s'
theorem bit_undn (a b i : Nat) : (undn a b).testBit i = (decide (i < 64) && (a.testBit i && !(b.testBit i))) := by
  unfold undn
  rw [BitVec.testBit_toNat]
  rw [BitVec.getLsbD_and, BitVec.getLsbD_not, BitVec.getLsbD_ofNat, BitVec.getLsbD_ofNat]
  by_cases h : i < 64 <;> simp [h]
theorem bit_mod (a i : Nat) : (a % 18446744073709551616).testBit i = (decide (i < 64) && a.testBit i) := by
  rw [show (18446744073709551616 : Nat) = 2 ^ 64 from rfl, Nat.testBit_mod_two_pow]
theorem bit_uand (a b i : Nat) : (uand a b).testBit i = (decide (i < 64) && (a.testBit i && b.testBit i)) := by
  unfold uand; rw [bit_mod, Nat.testBit_and]
theorem bit_uor (a b i : Nat) : (uor a b).testBit i = (decide (i < 64) && (a.testBit i || b.testBit i)) := by
  unfold uor; rw [bit_mod, Nat.testBit_or]
theorem bit_uxor (a b i : Nat) : (uxor a b).testBit i = (decide (i < 64) && (a.testBit i ^^ b.testBit i)) := by
  unfold uxor; rw [bit_mod, Nat.testBit_xor]
theorem bit_hi {a : Nat} (h : a < 18446744073709551616) {i : Nat} (hi : ¬ i < 64) : a.testBit i = false :=
  Nat.testBit_lt_two_pow (Nat.lt_of_lt_of_le (show a < 2 ^ 64 from h) (Nat.pow_le_pow_right (by decide) (Nat.le_of_not_lt hi)))
theorem uand_le (a b : Nat) : uand a b ≤ a := Nat.le_trans (Nat.mod_le _ _) Nat.and_le_left
theorem meet_same {v m rv rm : Nat} (hv : v < 18446744073709551616) (h : meetB ⟨v, m⟩ ⟨rv, rm⟩ = true) (hm : uand m rm = m) : uor v rv = v := by
  simp only [meetB, tnR, Bool.and_eq_true, beq_iff_eq] at h
  obtain ⟨⟨_, h2⟩, h3⟩ := h
  have h2 : uand rv rm = 0 := by exact_mod_cast h2
  have h3 : undn (undn (uxor v rv) m) rm = 0 := by exact_mod_cast h3
  apply Nat.eq_of_testBit_eq
  intro i
  have b2 := congrArg (fun x => x.testBit i) h2
  have b3 := congrArg (fun x => x.testBit i) h3
  have bm := congrArg (fun x => x.testBit i) hm
  simp only [bit_uand, bit_undn, bit_uxor, Nat.zero_testBit] at b2 b3 bm
  rw [bit_uor]
  by_cases hi : i < 64
  · simp only [hi, decide_true, Bool.true_and] at b2 b3 bm ⊢
    revert b2 b3 bm
    cases v.testBit i <;> cases m.testBit i <;> cases rv.testBit i <;> cases rm.testBit i <;> simp
  · simp [hi, bit_hi hv hi]
theorem wf_mono {s s' : Sc} (h : Wf s) (ht : s'.t = s.t) (h1 : s.s.lo ≤ s'.s.lo) (h2 : s'.s.hi ≤ s.s.hi) (h3 : s.s.sl ≤ s'.s.sl) (h4 : s'.s.sh ≤ s.s.sh) (h5 : s'.s.lo ≤ s'.s.hi) (h6 : s'.s.sl ≤ s'.s.sh) : Wf s' ∧ (s' = s ∨ mu s' < mu s) := by
  obtain ⟨a, b, c, d, e, f, g⟩ := h
  refine ⟨⟨by rw [ht]; exact a, by rw [ht]; exact b, h5, by omega, h6, by omega, by omega⟩, ?_⟩
  obtain ⟨t, lo, hi, sl, sh⟩ := s
  obtain ⟨t', lo', hi', sl', sh'⟩ := s'
  simp only at ht h1 h2 h3 h4 h5 h6 c e
  subst ht
  by_cases hh : lo' = lo ∧ hi' = hi ∧ sl' = sl ∧ sh' = sh
  · obtain ⟨rfl, rfl, rfl, rfl⟩ := hh
    exact .inl rfl
  · right
    simp only [mu]
    omega
theorem step_wf {i : Nat} {s s' : Sc} (h : Wf s) (hs : stepR i s = some s') : Wf s' ∧ (s' = s ∨ mu s' < mu s) := by
  unfold stepR at hs
  split at hs
  case isFalse => cases hs
  case isTrue hok =>
    cases hs
    match i with
    | 0 =>
      simp only [okk, ok1, decide_eq_true_eq] at hok
      exact wf_mono h rfl (Nat.le_max_left _ _) (Nat.min_le_left _ _) (Int.le_refl _) (Int.le_refl _) hok h.i
    | 1 =>
      simp only [okk, ok2] at hok
      simp only [rk, r2]
      obtain ⟨⟨v, m⟩, s⟩ := s
      generalize hrr : rangeT s.lo s.hi = rr at hok ⊢
      obtain ⟨rv, rm⟩ := rr
      clear hrr
      have hT : meetT ⟨v, m⟩ ⟨rv, rm⟩ = ⟨uor v rv, uand m rm⟩ := by unfold meetT; rw [if_pos hok]
      rw [hT]
      obtain ⟨a, b, c, d, e, f, g⟩ := h
      have hle := uand_le m rm
      simp only at a b
      refine ⟨⟨lt64 _, by simp only; omega, c, d, e, f, g⟩, ?_⟩
      by_cases hm : uand m rm = m
      · left
        rw [hm, meet_same a hok hm]
      · right
        simp only [mu]
        omega
    | 2 =>
      simp only [okk, ok3, Bool.or_eq_true, decide_eq_true_eq] at hok
      simp only [rk, r3]
      split
      · exact ⟨h, .inl rfl⟩
      · rename_i hf
        rcases hok with hok | hok
        · exact absurd hok hf
        · exact wf_mono h rfl (Nat.le_refl _) (Nat.le_refl _) (Int.le_max_left _ _) (Int.min_le_left _ _) h.u hok
    | n + 3 =>
      simp only [okk, ok4, Bool.or_eq_true, decide_eq_true_eq] at hok
      simp only [rk, r4]
      split
      · exact ⟨h, .inl rfl⟩
      · rename_i hf
        rcases hok with hok | hok
        · exact absurd hok hf
        · exact wf_mono h rfl (Nat.le_max_left _ _) (Nat.min_le_left _ _) (Int.le_refl _) (Int.le_refl _) hok h.i
theorem runs_wf {l : List Nat} : ∀ {s s' : Sc}, Wf s → runs l s = some s' → Wf s' ∧ (s' = s ∨ mu s' < mu s) := by
  induction l with
  | nil => intro s s' h hs; simp only [runs, Option.some.injEq] at hs; subst hs; exact ⟨h, .inl rfl⟩
  | cons i l ih =>
    intro s s' h hs
    simp only [runs] at hs
    cases h1 : stepR i s with
    | none => rw [h1] at hs; cases hs
    | some s1 =>
      rw [h1] at hs
      obtain ⟨w1, d1⟩ := step_wf h h1
      obtain ⟨w2, d2⟩ := ih w1 hs
      refine ⟨w2, ?_⟩
      rcases d1 with rfl | d1
      · exact d2
      · rcases d2 with rfl | d2
        · exact .inr d1
        · exact .inr (Nat.lt_trans d2 d1)
/-- Rounds, till nothing changes. -/
def togN : Nat → Sc → Option Sc
  | 0, _ => none
  | n + 1, s => match round s with
    | none => none
    | some s' => if s' = s then some s else togN n s'
theorem togN_more : ∀ {n k : Nat} {s : Sc}, Wf s → mu s < n → mu s < k → togN n s = togN k s := by
  intro n
  induction n with
  | zero => intro k s _ h _; omega
  | succ n ih =>
    intro k s hw hn hk
    cases k with
    | zero => omega
    | succ k =>
      simp only [togN]
      cases hr : round s with
      | none => rfl
      | some s' =>
        simp only
        split
        · rfl
        · rename_i hne
          obtain ⟨w', d⟩ := runs_wf hw hr
          have := d.resolve_left hne
          exact ih w' (by omega) (by omega)
def tog (s : Sc) : Option Sc := togN (mu s + 1) s
theorem tog_none {s : Sc} (h : round s = none) : tog s = none := by simp [tog, togN, h]
theorem tog_same {s : Sc} (h : round s = some s) : tog s = some s := by simp [tog, togN, h]
theorem tog_next {s s' : Sc} (hw : Wf s) (h : round s = some s') (hne : s' ≠ s) : tog s = tog s' := by
  obtain ⟨w', d⟩ := runs_wf hw h
  have := d.resolve_left hne
  have h1 : tog s = togN (mu s) s' := by
    unfold tog
    simp only [togN, h, if_neg hne]
  rw [h1]
  exact togN_more w' (by omega) (by omega)
end Go.Proofs.Ytmbmmcippglfoaa.M
