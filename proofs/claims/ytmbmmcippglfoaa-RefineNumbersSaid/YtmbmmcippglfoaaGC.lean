/-
  Merged: Fix, BrT, BrS.
-/
import Derived.Test.YtmbmmcippglfoaaTog
import Derived.Lib.ItoaNum
namespace Go.Proofs.Ytmbmmcippglfoaa.M
open Go.RowKit
set_option linter.unusedVariables false
set_option linter.unusedSectionVars false
set_option linter.unusedSimpArgs false
structure Rg (s : Sc) : Prop where
  v : s.t.v < 18446744073709551616
  m : s.t.m < 18446744073709551616
  lo : s.s.lo < 18446744073709551616
  hi : s.s.hi < 18446744073709551616
  sl : -9223372036854775808 ≤ s.s.sl
  sh : s.s.sh ≤ 9223372036854775807
def ofT (s : Sc) : Option Sc := if tnR s.t && spR s.s then tog s else none
def zeroSc : Sc := ⟨⟨0, 0⟩, ⟨0, 0, 0, 0⟩⟩
def leT (a b : Tn) : Prop := ∀ i, i < 64 → b.m.testBit i = true ∨ (b.m.testBit i = false ∧ a.m.testBit i = false ∧ a.v.testBit i = b.v.testBit i)
structure LeS (a b : Sp) : Prop where
  lo : b.lo ≤ a.lo
  hi : a.hi ≤ b.hi
  sl : b.sl ≤ a.sl
  sh : a.sh ≤ b.sh
structure Le (a b : Sc) : Prop where
  t : leT a.t b.t
  s : LeS a.s b.s
theorem leT_refl (a : Tn) : leT a a := fun i _ => by cases h : a.m.testBit i <;> simp
theorem leT_trans {a b c : Tn} (h : leT a b) (k : leT b c) : leT a c := fun i hi => by
  have h1 := h i hi; have h2 := k i hi
  rcases h2 with h2 | ⟨h2, h3, h4⟩
  · exact .inl h2
  · rcases h1 with h1 | ⟨h1, h5, h6⟩
    · rw [h1] at h3; cases h3
    · exact .inr ⟨h2, h5, h6.trans h4⟩
theorem Le.refl (a : Sc) : Le a a := ⟨leT_refl _, ⟨Nat.le_refl _, Nat.le_refl _, Int.le_refl _, Int.le_refl _⟩⟩
theorem Le.trans {a b c : Sc} (h : Le a b) (k : Le b c) : Le a c := ⟨leT_trans h.t k.t, ⟨Nat.le_trans k.s.lo h.s.lo, Nat.le_trans h.s.hi k.s.hi, Int.le_trans k.s.sl h.s.sl, Int.le_trans h.s.sh k.s.sh⟩⟩
theorem zero_of_bits {n : Nat} (hn : n < 18446744073709551616) (h : ∀ i, i < 64 → n.testBit i = false) : n = 0 := by
  apply Nat.eq_of_testBit_eq
  intro i
  rw [Nat.zero_testBit]
  by_cases hi : i < 64
  · exact h i hi
  · exact bit_hi hn hi
theorem eq_of_bits {n k : Nat} (hn : n < 18446744073709551616) (hk : k < 18446744073709551616) (h : ∀ i, i < 64 → n.testBit i = k.testBit i) : n = k := by
  apply Nat.eq_of_testBit_eq
  intro i
  by_cases hi : i < 64
  · exact h i hi
  · rw [bit_hi hn hi, bit_hi hk hi]
theorem le_of_bits {n k : Nat} (hn : n < 18446744073709551616) (h : ∀ i, i < 64 → n.testBit i = true → k.testBit i = true) : n ≤ k := by
  have h1 : n = n &&& k := by
    apply Nat.eq_of_testBit_eq
    intro i
    rw [Nat.testBit_and]
    by_cases hi : i < 64
    · have := h i hi
      revert this
      cases n.testBit i <;> cases k.testBit i <;> simp
    · rw [bit_hi hn hi]; simp
  rw [h1]
  exact Nat.and_le_right
theorem undn_lt (a b : Nat) : undn a b < 18446744073709551616 := BitVec.isLt _
theorem uand_lt (a b : Nat) : uand a b < 18446744073709551616 := lt64 _
theorem uor_lt (a b : Nat) : uor a b < 18446744073709551616 := lt64 _
theorem tnR_iff {t : Tn} : tnR t = true ↔ ∀ i, i < 64 → t.m.testBit i = true → t.v.testBit i = false := by
  unfold tnR
  rw [beq_iff_eq]
  constructor
  · intro h i hi hm
    have h0 : uand t.v t.m = 0 := by exact_mod_cast h
    have h1 := congrArg (fun x => x.testBit i) h0
    simp only [bit_uand, hi, decide_true, Bool.true_and, hm, Bool.and_true, Nat.zero_testBit] at h1
    exact h1
  · intro h
    have : uand t.v t.m = 0 := by
      refine zero_of_bits (uand_lt _ _) (fun i hi => ?_)
      rw [bit_uand]
      have := h i hi
      revert this
      cases t.v.testBit i <;> cases t.m.testBit i <;> simp
    exact_mod_cast this
theorem meetB_iff {a b : Tn} : meetB a b = true ↔ tnR a = true ∧ tnR b = true ∧ ∀ i, i < 64 → a.m.testBit i = false → b.m.testBit i = false → a.v.testBit i = b.v.testBit i := by
  unfold meetB
  rw [Bool.and_eq_true, Bool.and_eq_true, and_assoc, beq_iff_eq]
  refine and_congr_right fun _ => and_congr_right fun _ => ?_
  constructor
  · intro h i hi ha hb
    have h0 : undn (undn (uxor a.v b.v) a.m) b.m = 0 := by exact_mod_cast h
    have h1 := congrArg (fun x => x.testBit i) h0
    simp only [bit_undn, bit_uxor, hi, decide_true, Bool.true_and, ha, hb, Bool.not_false, Bool.and_true, Nat.zero_testBit] at h1
    revert h1
    cases a.v.testBit i <;> cases b.v.testBit i <;> simp
  · intro h
    have : undn (undn (uxor a.v b.v) a.m) b.m = 0 := by
      refine zero_of_bits (undn_lt _ _) (fun i hi => ?_)
      simp only [bit_undn, bit_uxor, hi, decide_true, Bool.true_and]
      have := h i hi
      revert this
      cases a.v.testBit i <;> cases b.v.testBit i <;> cases a.m.testBit i <;> cases b.m.testBit i <;> simp
    exact_mod_cast this
theorem meetT_at {a b : Tn} (h : meetB a b = true) : meetT a b = ⟨uor a.v b.v, uand a.m b.m⟩ := by unfold meetT; rw [if_pos h]
theorem meet_right {a b : Tn} (h : meetB a b = true) : tnR (meetT a b) = true := by
  rw [meetT_at h]
  obtain ⟨ha, hb, hx⟩ := meetB_iff.1 h
  rw [tnR_iff] at *
  intro i hi
  have h1 := ha i hi; have h2 := hb i hi; have h3 := hx i hi
  simp only [bit_uor, bit_uand, hi, decide_true, Bool.true_and]
  revert h1 h2 h3
  cases a.v.testBit i <;> cases b.v.testBit i <;> cases a.m.testBit i <;> cases b.m.testBit i <;> simp
theorem meet_left {a b : Tn} (h : meetB a b = true) : leT (meetT a b) a := by
  rw [meetT_at h]
  obtain ⟨ha, hb, hx⟩ := meetB_iff.1 h
  rw [tnR_iff] at *
  intro i hi
  have h1 := ha i hi; have h2 := hb i hi; have h3 := hx i hi
  simp only [bit_uor, bit_uand, hi, decide_true, Bool.true_and]
  revert h1 h2 h3
  cases a.v.testBit i <;> cases b.v.testBit i <;> cases a.m.testBit i <;> cases b.m.testBit i <;> simp
theorem meetB_comm (a b : Tn) : meetB a b = meetB b a := by
  rw [Bool.eq_iff_iff, meetB_iff, meetB_iff]
  exact ⟨fun ⟨h1, h2, h3⟩ => ⟨h2, h1, fun i hi x y => (h3 i hi y x).symm⟩, fun ⟨h1, h2, h3⟩ => ⟨h2, h1, fun i hi x y => (h3 i hi y x).symm⟩⟩
theorem uor_comm (a b : Nat) : uor a b = uor b a := by unfold uor; rw [Nat.or_comm]
theorem uand_comm (a b : Nat) : uand a b = uand b a := by unfold uand; rw [Nat.and_comm]
theorem meetT_comm (a b : Tn) : meetT a b = meetT b a := by
  unfold meetT
  rw [meetB_comm, uor_comm, uand_comm]
theorem meet_of_le {r a b : Tn} (h1 : leT r a) (h2 : leT r b) (ha : tnR a = true) (hb : tnR b = true) : meetB a b = true ∧ leT r (meetT a b) := by
  have hm : meetB a b = true := by
    refine meetB_iff.2 ⟨ha, hb, fun i hi x y => ?_⟩
    have k1 := h1 i hi; have k2 := h2 i hi
    rw [x] at k1; rw [y] at k2
    simp only [Bool.false_eq_true, false_or, true_and] at k1 k2
    exact k1.2.symm.trans k2.2
  refine ⟨hm, ?_⟩
  rw [meetT_at hm]
  intro i hi
  have k1 := h1 i hi; have k2 := h2 i hi; have k3 := tnR_iff.1 ha i hi; have k4 := tnR_iff.1 hb i hi
  simp only [bit_uor, bit_uand, hi, decide_true, Bool.true_and]
  revert k1 k2 k3 k4
  cases a.v.testBit i <;> cases b.v.testBit i <;> cases a.m.testBit i <;> cases b.m.testBit i <;> cases r.m.testBit i <;> cases r.v.testBit i <;> simp
theorem leT_v {a b : Tn} (h : leT a b) (hb : tnR b = true) (hv : b.v < 18446744073709551616) : b.v ≤ a.v := by
  refine le_of_bits hv (fun i hi hx => ?_)
  have k := h i hi; have k2 := tnR_iff.1 hb i hi
  rw [hx] at k k2
  rcases k with k | ⟨_, _, k⟩
  · have := k2 k; cases this
  · exact k
theorem leT_u {a b : Tn} (h : leT a b) : uor a.v a.m ≤ uor b.v b.m := by
  refine le_of_bits (uor_lt _ _) (fun i hi hx => ?_)
  have k := h i hi
  simp only [bit_uor, hi, decide_true, Bool.true_and] at hx ⊢
  rcases k with k | ⟨k1, k2, k3⟩
  · simp [k]
  · rw [k2, Bool.or_false] at hx
    simp [← k3, hx]
theorem bitLen_of_lt {x k : Nat} (hk : k ≤ 64) (h : x < 2 ^ k) : Lib.bitLen x ≤ k := Lib.bitLen_le _ k hk h
theorem lt_bitLen {x : Nat} (h : x < 18446744073709551616) : x < 2 ^ Lib.bitLen x := by
  by_cases h0 : x = 0
  · subst h0; exact Nat.two_pow_pos _
  · exact (Lib.bitLenAux_bounds 64 x h h0).2.2
theorem range_m (lo hi i : Nat) : (rangeT lo hi).m.testBit i = decide (i < lenX lo hi) := by
  unfold rangeT maskN
  exact Nat.testBit_two_pow_sub_one _ _
theorem range_v (lo hi i : Nat) (h : i < 64) : (rangeT lo hi).v.testBit i = (lo.testBit i && !decide (i < lenX lo hi)) := by
  unfold rangeT maskN
  rw [bit_undn, Nat.testBit_two_pow_sub_one]
  simp [h]
theorem range_right (lo hi : Nat) : tnR (rangeT lo hi) = true := by
  rw [tnR_iff]
  intro i hi hm
  rw [range_m] at hm
  rw [range_v _ _ _ hi, hm]
  simp
theorem div_bits {a b k : Nat} (h : a / 2 ^ k = b / 2 ^ k) {i : Nat} (hi : k ≤ i) : a.testBit i = b.testBit i := by
  have h1 : (a / 2 ^ k).testBit (i - k) = (b / 2 ^ k).testBit (i - k) := by rw [h]
  rw [Nat.testBit_div_two_pow, Nat.testBit_div_two_pow] at h1
  rwa [show i - k + k = i by omega] at h1
theorem range_div {lo hi : Nat} : lo % 18446744073709551616 / 2 ^ lenX lo hi = hi % 18446744073709551616 / 2 ^ lenX lo hi := by
  apply Nat.eq_of_testBit_eq
  intro i
  rw [Nat.testBit_div_two_pow, Nat.testBit_div_two_pow, bit_mod, bit_mod]
  have h1 : (uxor lo hi).testBit (i + lenX lo hi) = false := by
    refine Nat.testBit_lt_two_pow (Nat.lt_of_lt_of_le (lt_bitLen (uxor_lt lo hi)) (Nat.pow_le_pow_right (by decide) ?_))
    unfold lenX; omega
  rw [bit_uxor] at h1
  revert h1
  cases lo.testBit (i + lenX lo hi) <;> cases hi.testBit (i + lenX lo hi) <;> simp
theorem range_mono {lo hi lo' hi' : Nat} (h1 : lo' ≤ lo) (h2 : lo ≤ hi) (h3 : hi ≤ hi') (h4 : hi' < 18446744073709551616) : leT (rangeT lo hi) (rangeT lo' hi') := by
  have hd := range_div (lo := lo') (hi := hi')
  rw [Nat.mod_eq_of_lt (by omega), Nat.mod_eq_of_lt h4] at hd
  generalize hk : lenX lo' hi' = k at hd
  have hk64 : k ≤ 64 := by rw [← hk]; exact lenX_le _ _
  have d1 : lo' / 2 ^ k ≤ lo / 2 ^ k := Nat.div_le_div_right h1
  have d2 : lo / 2 ^ k ≤ hi / 2 ^ k := Nat.div_le_div_right h2
  have d3 : hi / 2 ^ k ≤ hi' / 2 ^ k := Nat.div_le_div_right h3
  have e1 : lo / 2 ^ k = lo' / 2 ^ k := by omega
  have e2 : lo / 2 ^ k = hi / 2 ^ k := by omega
  have hx : uxor lo hi < 2 ^ k := by
    refine Nat.lt_pow_two_of_testBit _ (fun i hi' => ?_)
    rw [bit_uxor, div_bits e2 hi']
    simp
  have hl : lenX lo hi ≤ k := bitLen_of_lt hk64 hx
  intro i hi64
  rw [range_m, range_m, hk]
  by_cases hik : i < k
  · exact .inl (by simp [hik])
  · refine .inr ⟨by simp [hik], by simp; omega, ?_⟩
    rw [range_v _ _ _ hi64, range_v _ _ _ hi64, hk, div_bits e1 (Nat.le_of_not_lt hik)]
    simp [hik, show ¬ i < lenX lo hi by omega]
theorem toS_eq (n : Nat) (h : n < 18446744073709551616) : toS n = if n < 9223372036854775808 then (n : Int) else (n : Int) - 18446744073709551616 := by
  unfold toS
  rw [IntKind.wrap_i64]
  split <;> omega
theorem toU_eq (n : Int) (h1 : -9223372036854775808 ≤ n) (h2 : n ≤ 9223372036854775807) : ((toU n : Nat) : Int) = if n < 0 then n + 18446744073709551616 else n := by
  unfold toU
  split <;> omega
theorem far3_iff (s : Sc) : far3 s = false ↔ s.s.lo / 9223372036854775808 = s.s.hi / 9223372036854775808 := by
  unfold far3
  simp only [bne_eq_false_iff_eq]
  omega
theorem far4_iff (s : Sc) : far4 s = false ↔ (s.s.sl < 0 ↔ s.s.sh < 0) := by
  unfold far4
  simp only [bne_eq_false_iff_eq, decide_eq_decide]
/-- What stands: brought together, and right. -/
structure Fx (r : Sc) : Prop where
  wf : Wf r
  t : tnR r.t = true
  f : ∀ i, i < 4 → okk i r = true ∧ rk i r = r
theorem Fx.v {r : Sc} (h : Fx r) : r.t.v ≤ r.s.lo := by
  have := congrArg (fun x => x.s.lo) (h.f 0 (by decide)).2
  simp only [rk, r1] at this
  omega
theorem Fx.u {r : Sc} (h : Fx r) : r.s.hi ≤ uor r.t.v r.t.m := by
  have := congrArg (fun x => x.s.hi) (h.f 0 (by decide)).2
  simp only [rk, r1] at this
  omega
theorem Fx.range {r : Sc} (h : Fx r) : leT r.t (rangeT r.s.lo r.s.hi) := by
  have h1 := (h.f 1 (by decide)).1
  have h2 := congrArg (fun x => x.t) (h.f 1 (by decide)).2
  simp only [okk, ok2] at h1
  simp only [rk, r2] at h2
  have h3 := meet_left (a := rangeT r.s.lo r.s.hi) (b := r.t) (by rw [meetB_comm]; exact h1)
  rw [meetT_comm, h2] at h3
  exact h3
theorem Fx.s3 {r : Sc} (h : Fx r) (hf : far3 r = false) : toS r.s.lo ≤ r.s.sl ∧ r.s.sh ≤ toS r.s.hi := by
  have h2 := (h.f 2 (by decide)).2
  simp only [rk, r3, hf, Bool.false_eq_true, if_false] at h2
  have a := congrArg (fun x => x.s.sl) h2
  have b := congrArg (fun x => x.s.sh) h2
  simp only at a b
  omega
theorem Fx.s4 {r : Sc} (h : Fx r) (hf : far4 r = false) : toU r.s.sl ≤ r.s.lo ∧ r.s.hi ≤ toU r.s.sh := by
  have h2 := (h.f 3 (by decide)).2
  simp only [rk, r4, hf, Bool.false_eq_true, if_false] at h2
  have a := congrArg (fun x => x.s.lo) h2
  have b := congrArg (fun x => x.s.hi) h2
  simp only at a b
  omega
theorem step_above {r s : Sc} (hr : Fx r) (hs : Wf s) (ht : tnR s.t = true) (h : Le r s) : ∀ i, i < 4 → okk i s = true ∧ Le r (rk i s) ∧ tnR (rk i s).t = true := by
  intro i hi
  have hw := hr.wf
  match i with
  | 0 =>
    have a1 := leT_v h.t ht hs.v
    have a2 := leT_u h.t
    have a3 := hr.v
    have a4 := hr.u
    have a5 := h.s.lo
    have a6 := h.s.hi
    have a7 := hw.u
    refine ⟨?_, ⟨h.t, ⟨?_, ?_, h.s.sl, h.s.sh⟩⟩, ht⟩
    · simp only [okk, ok1, decide_eq_true_eq]
      omega
    · simp only [rk, r1]; omega
    · simp only [rk, r1]; omega
  | 1 =>
    have a1 : leT r.t (rangeT s.s.lo s.s.hi) := leT_trans hr.range (range_mono h.s.lo hw.u h.s.hi hs.hi)
    obtain ⟨b1, b2⟩ := meet_of_le h.t a1 ht (range_right _ _)
    exact ⟨b1, ⟨b2, h.s⟩, meet_right b1⟩
  | 2 =>
    cases hf : far3 s with
    | true =>
      simp only [okk, ok3, rk, r3, hf, Bool.true_or, if_true]
      exact ⟨trivial, h, ht⟩
    | false =>
      have h0 := (far3_iff s).1 hf
      have a5 := h.s.lo
      have a6 := h.s.hi
      have a7 := hw.u
      have a8 := hw.i
      have a9 := hs.hi
      have hfr : far3 r = false := (far3_iff r).2 (by omega)
      obtain ⟨b1, b2⟩ := hr.s3 hfr
      rw [toS_eq _ (by omega)] at b1 b2
      have c1 := toS_eq s.s.lo (by omega)
      have c2 := toS_eq s.s.hi (by omega)
      have d1 : toS s.s.lo ≤ r.s.sl := by rw [c1]; split at b1 <;> split <;> omega
      have d2 : r.s.sh ≤ toS s.s.hi := by rw [c2]; split at b2 <;> split <;> omega
      have d3 := h.s.sl
      have d4 := h.s.sh
      simp only [okk, ok3, rk, r3, hf, Bool.false_or, Bool.false_eq_true, if_false, decide_eq_true_eq]
      exact ⟨by omega, ⟨h.t, ⟨a5, a6, by simp only; omega, by simp only; omega⟩⟩, ht⟩
  | 3 =>
    cases hf : far4 s with
    | true =>
      simp only [okk, ok4, rk, r4, hf, Bool.true_or, if_true]
      exact ⟨trivial, h, ht⟩
    | false =>
      have h0 := (far4_iff s).1 hf
      have a5 := h.s.sl
      have a6 := h.s.sh
      have a7 := hw.i
      have a8 := hw.u
      have s1 := hs.sl
      have s2 := hs.sh
      have w1 := hw.sl
      have w2 := hw.sh
      have hfr : far4 r = false := (far4_iff r).2 (by omega)
      obtain ⟨b1, b2⟩ := hr.s4 hfr
      have e1 := toU_eq r.s.sl (by omega) (by omega)
      have e2 := toU_eq r.s.sh (by omega) (by omega)
      have c1 := toU_eq s.s.sl (by omega) (by omega)
      have c2 := toU_eq s.s.sh (by omega) (by omega)
      have d1 : toU s.s.sl ≤ r.s.lo := by split at e1 <;> split at c1 <;> omega
      have d2 : r.s.hi ≤ toU s.s.sh := by split at e2 <;> split at c2 <;> omega
      have d3 := h.s.lo
      have d4 := h.s.hi
      simp only [okk, ok4, rk, r4, hf, Bool.false_or, Bool.false_eq_true, if_false, decide_eq_true_eq]
      exact ⟨by omega, ⟨h.t, ⟨by simp only; omega, by simp only; omega, a5, a6⟩⟩, ht⟩
theorem runs_above {r : Sc} (hr : Fx r) : ∀ {l : List Nat} {s : Sc}, (∀ i ∈ l, i < 4) → Wf s → tnR s.t = true → Le r s → ∃ s', runs l s = some s' ∧ Le r s' ∧ tnR s'.t = true ∧ Wf s' ∧ (s' = s ∨ mu s' < mu s) := by
  intro l
  induction l with
  | nil => intro s _ hw ht h; exact ⟨s, rfl, h, ht, hw, .inl rfl⟩
  | cons i l ih =>
    intro s hl hw ht h
    obtain ⟨h1, h2, h3⟩ := step_above hr hw ht h i (hl i (by simp))
    have hs : stepR i s = some (rk i s) := by unfold stepR; rw [if_pos h1]
    obtain ⟨w1, d1⟩ := step_wf hw hs
    obtain ⟨s', e1, e2, e3, e4, e5⟩ := ih (fun j hj => hl j (by simp [hj])) w1 h3 h2
    refine ⟨s', by simp [runs, hs, e1], e2, e3, e4, ?_⟩
    rcases d1 with d1 | d1
    · rw [d1] at e5; exact e5
    · rcases e5 with e5 | e5
      · rw [e5]; exact .inr d1
      · exact .inr (Nat.lt_trans e5 d1)
/-- What stands, below a scalar, is below what that one comes to. -/
theorem tog_above {r : Sc} (hr : Fx r) : ∀ (n : Nat) {s : Sc}, mu s < n → Wf s → tnR s.t = true → Le r s → ∃ t, tog s = some t ∧ Le r t := by
  intro n
  induction n with
  | zero => intro s h; omega
  | succ n ih =>
    intro s hn hw ht h
    obtain ⟨s', e1, e2, e3, e4, e5⟩ := runs_above hr (l := List.range 4) (fun i hi => by simpa using hi) hw ht h
    by_cases he : s' = s
    · subst he
      exact ⟨s', tog_same e1, h⟩
    · rw [tog_next hw e1 he]
      have := e5.resolve_left he
      exact ih (by omega) e4 e3 e2
theorem step_below {i : Nat} {s s' : Sc} (ht : tnR s.t = true) (hs : stepR i s = some s') : Le s' s ∧ tnR s'.t = true := by
  unfold stepR at hs
  split at hs
  case isFalse => cases hs
  case isTrue hok =>
    cases hs
    match i with
    | 0 => exact ⟨⟨leT_refl _, ⟨by simp only [rk, r1]; omega, by simp only [rk, r1]; omega, Int.le_refl _, Int.le_refl _⟩⟩, ht⟩
    | 1 =>
      simp only [okk, ok2] at hok
      exact ⟨⟨meet_left hok, (Le.refl s).s⟩, meet_right hok⟩
    | 2 =>
      simp only [rk, r3]
      split
      · exact ⟨Le.refl _, ht⟩
      · exact ⟨⟨leT_refl _, ⟨Nat.le_refl _, Nat.le_refl _, by simp only; omega, by simp only; omega⟩⟩, ht⟩
    | n + 3 =>
      simp only [rk, r4]
      split
      · exact ⟨Le.refl _, ht⟩
      · exact ⟨⟨leT_refl _, ⟨by simp only; omega, by simp only; omega, Int.le_refl _, Int.le_refl _⟩⟩, ht⟩
theorem runs_below {l : List Nat} : ∀ {s s' : Sc}, tnR s.t = true → runs l s = some s' → Le s' s ∧ tnR s'.t = true := by
  induction l with
  | nil => intro s s' ht h; cases h; exact ⟨Le.refl _, ht⟩
  | cons i l ih =>
    intro s s' ht h
    simp only [runs] at h
    cases h1 : stepR i s with
    | none => rw [h1] at h; cases h
    | some s1 =>
      rw [h1] at h
      obtain ⟨a, b⟩ := step_below ht h1
      obtain ⟨c, d⟩ := ih b h
      exact ⟨c.trans a, d⟩
theorem runs_fix {l : List Nat} : ∀ {s : Sc}, Wf s → runs l s = some s → ∀ i ∈ l, okk i s = true ∧ rk i s = s := by
  induction l with
  | nil => intro s _ _ i hi; cases hi
  | cons j l ih =>
    intro s hw h
    simp only [runs] at h
    cases h1 : stepR j s with
    | none => rw [h1] at h; cases h
    | some s1 =>
      rw [h1] at h
      obtain ⟨w1, d1⟩ := step_wf hw h1
      obtain ⟨_, d2⟩ := runs_wf w1 h
      have he : s1 = s := by
        rcases d1 with d1 | d1
        · exact d1
        · rcases d2 with d2 | d2
          · exact d2.symm
          · omega
      rw [he] at h h1
      intro i hi
      rcases List.mem_cons.1 hi with rfl | hi
      · unfold stepR at h1
        split at h1
        · rename_i hk; exact ⟨hk, by simpa using h1⟩
        · cases h1
      · exact ih hw h i hi
theorem fx_of {s : Sc} (hw : Wf s) (ht : tnR s.t = true) (h : round s = some s) : Fx s := ⟨hw, ht, fun i hi => runs_fix hw h i (by simpa using hi)⟩
theorem Fx.round {s : Sc} (h : Fx s) : M.round s = some s := by
  have a0 := h.f 0 (by decide)
  have a1 := h.f 1 (by decide)
  have a2 := h.f 2 (by decide)
  have a3 := h.f 3 (by decide)
  show runs [0, 1, 2, 3] s = some s
  simp [runs, stepR, a0, a1, a2, a3]
theorem Fx.tog {s : Sc} (h : Fx s) : M.tog s = some s := tog_same h.round
theorem togN_fx : ∀ {n : Nat} {s r : Sc}, Wf s → tnR s.t = true → togN n s = some r → Fx r ∧ Le r s := by
  intro n
  induction n with
  | zero => intro s r _ _ h; cases h
  | succ n ih =>
    intro s r hw ht h
    simp only [togN] at h
    cases hr : M.round s with
    | none => rw [hr] at h; cases h
    | some s' =>
      rw [hr] at h
      simp only at h
      split at h
      · rename_i he
        cases h
        rw [he] at hr
        exact ⟨fx_of hw ht hr, Le.refl _⟩
      · obtain ⟨w', _⟩ := runs_wf hw hr
        obtain ⟨b, t'⟩ := runs_below ht hr
        obtain ⟨c, d⟩ := ih w' t' h
        exact ⟨c, d.trans b⟩
/-- What a scalar comes to stands, and is below it. -/
theorem tog_fx {s r : Sc} (hw : Wf s) (ht : tnR s.t = true) (h : tog s = some r) : Fx r ∧ Le r s := togN_fx hw ht h
theorem togN_go : ∀ {n k : Nat} {s r : Sc}, n ≤ k → togN n s = some r → togN k s = some r := by
  intro n
  induction n with
  | zero => intro k s r _ h; cases h
  | succ n ih =>
    intro k s r hk h
    cases k with
    | zero => omega
    | succ k =>
      simp only [togN] at h ⊢
      cases hr : M.round s with
      | none => rw [hr] at h; cases h
      | some s' =>
        rw [hr] at h
        simp only at h ⊢
        split at h
        · rename_i he; rw [if_pos he]; exact h
        · rename_i he; rw [if_neg he]; exact ih (by omega) h
end Go.Proofs.Ytmbmmcippglfoaa.M
namespace Go.Proofs.Ytmbmmcippglfoaa.M
open Go.RowKit
set_option linter.unusedVariables false
set_option linter.unusedSectionVars false
set_option linter.unusedSimpArgs false
def rightB (s : Sc) : Bool := decide (ofT s = some s)
def oneT (s : Sc) : Option Nat := if rightB s && decide (s.s.lo = s.s.hi) then some s.s.lo else none
def beU (q : Bool) (n : Nat) : Nat := if q then n else toU ((n : Int) - 1)
def abU (q : Bool) (n : Nat) : Nat := if q then n else toU ((n : Int) + 1)
def beI (q : Bool) (n : Int) : Int := if q then n else IntKind.i64.wrap (n - 1)
def abI (q : Bool) (n : Int) : Int := if q then n else IntKind.i64.wrap (n + 1)
def beUo (q : Bool) (n : Nat) : Bool := q || decide (0 < n)
def abUo (q : Bool) (n : Nat) : Bool := q || decide (n < 18446744073709551615)
def beIo (q : Bool) (n : Int) : Bool := q || decide (-9223372036854775808 < n)
def abIo (q : Bool) (n : Int) : Bool := q || decide (n < 9223372036854775807)
def lowA (q : Bool) (a b : Sc) : Sc := ⟨a.t, ⟨a.s.lo, min a.s.hi (beU q b.s.hi), a.s.sl, a.s.sh⟩⟩
def uppA (q : Bool) (a b : Sc) : Sc := ⟨a.t, ⟨max a.s.lo (abU q b.s.lo), a.s.hi, a.s.sl, a.s.sh⟩⟩
def lesA (q : Bool) (a b : Sc) : Sc := ⟨a.t, ⟨a.s.lo, a.s.hi, a.s.sl, min a.s.sh (beI q b.s.sh)⟩⟩
def morA (q : Bool) (a b : Sc) : Sc := ⟨a.t, ⟨a.s.lo, a.s.hi, max a.s.sl (abI q b.s.sl), a.s.sh⟩⟩
def lowT (q : Bool) (a b : Sc) : Option Sc := if beUo q b.s.hi then ofT (lowA q a b) else none
def uppT (q : Bool) (a b : Sc) : Option Sc := if abUo q b.s.lo then ofT (uppA q a b) else none
def lesT (q : Bool) (a b : Sc) : Option Sc := if beIo q b.s.sh then ofT (lesA q a b) else none
def morT (q : Bool) (a b : Sc) : Option Sc := if abIo q b.s.sl then ofT (morA q a b) else none
def endsA (s : Sp) (n : Nat) : Sp := ⟨if s.lo = n then toU ((s.lo : Int) + 1) else s.lo, if s.hi = n then toU ((s.hi : Int) - 1) else s.hi, if s.sl = toS n then IntKind.i64.wrap (s.sl + 1) else s.sl, if s.sh = toS n then IntKind.i64.wrap (s.sh - 1) else s.sh⟩
def otherT (a b : Sc) : Option Sc := match oneT b with | none => some a | some n => if oneT a = some n then none else ofT ⟨a.t, endsA a.s n⟩
def unot (n : Nat) : Nat := 18446744073709551615 - n
def knownT (a : Sc) (which ones : Nat) : Option Sc := if meetB a.t ⟨ones, unot which⟩ then ofT ⟨meetT a.t ⟨ones, unot which⟩, a.s⟩ else none
def maybeN (a : Sc) : Nat := uor a.t.v a.t.m
def single (n : Nat) : Bool := (n != 0) && (uand n (n - 1) == 0)
def someT (a b : Sc) : Option Sc := if uand (maybeN a) (maybeN b) = 0 then none else if single (uand (maybeN a) (maybeN b)) then knownT a (uand (maybeN a) (maybeN b)) (uand (maybeN a) (maybeN b)) else some a
def noneT (a b : Sc) : Option Sc := knownT a b.t.v 0
def spMeet (a b : Sp) : Sp := ⟨max a.lo b.lo, min a.hi b.hi, max a.sl b.sl, min a.sh b.sh⟩
def spMeetB (a b : Sp) : Bool := spR a && spR b && spR (spMeet a b)
def scMeetT (a b : Sc) : Option Sc := if rightB a && rightB b && meetB a.t b.t && spMeetB a.s b.s then ofT ⟨meetT a.t b.t, spMeet a.s b.s⟩ else none
def opp (op : Nat) : Nat := match op with | 16 => 80 | 80 => 16 | 32 => 176 | 176 => 32 | 48 => 160 | 160 => 48 | 96 => 208 | 208 => 96 | 112 => 192 | 192 => 112 | 64 => 1 | _ => 0
def ruleT (op : Nat) (side : Bool) : Sc → Sc → Option Sc := match op with
  | 16 => scMeetT
  | 80 => otherT
  | 64 => someT
  | 1 => noneT
  | 160 => if side then uppT false else lowT false
  | 176 => if side then uppT true else lowT true
  | 32 => if side then lowT false else uppT false
  | 48 => if side then lowT true else uppT true
  | 192 => if side then morT false else lesT false
  | 208 => if side then morT true else lesT true
  | 96 => if side then lesT false else morT false
  | 112 => if side then lesT true else morT true
  | _ => fun _ _ => none
def holdT (op : Nat) (a b : Sc) : Option (Sc × Sc) := (ruleT op false a b).bind fun c => (ruleT op true b a).map fun d => (c, d)
def branchT (op : Nat) (wide : Bool) (a b : Sc) (taken : Bool) : Option (Sc × Sc) :=
  if rightB a && rightB b && (opp op != 0) then
    if !wide && decide (2147483648 ≤ max a.s.hi b.s.hi) then some (a, b) else holdT (if taken then op else opp op) a b
  else none
theorem Wf.rg {s : Sc} (h : Wf s) : Rg s := ⟨h.v, h.m, Nat.lt_of_le_of_lt h.u h.hi, h.hi, h.sl, h.sh⟩
theorem Fx.rg {s : Sc} (h : Fx s) : Rg s := h.wf.rg
theorem Fx.sp {s : Sc} (h : Fx s) : spR s.s = true := by simp [spR, h.wf.u, h.wf.i]
theorem ofT_some {s r : Sc} (hr : Rg s) (h : ofT s = some r) : Fx r ∧ Le r s := by
  unfold ofT at h
  split at h
  · rename_i hc
    simp only [Bool.and_eq_true, spR, decide_eq_true_eq] at hc
    exact tog_fx ⟨hr.v, hr.m, hc.2.1, hr.hi, hc.2.2, hr.sl, hr.sh⟩ hc.1 h
  · cases h
theorem ofT_above {r s : Sc} (hf : Fx r) (hr : Rg s) (ht : tnR s.t = true) (h : Le r s) : ∃ t, ofT s = some t ∧ Le r t := by
  have a1 := hf.wf.u; have a2 := hf.wf.i; have a3 := h.s.lo; have a4 := h.s.hi; have a5 := h.s.sl; have a6 := h.s.sh
  have h1 : s.s.lo ≤ s.s.hi := by omega
  have h2 : s.s.sl ≤ s.s.sh := by omega
  have hw : Wf s := ⟨hr.v, hr.m, h1, hr.hi, h2, hr.sl, hr.sh⟩
  unfold ofT
  rw [if_pos (by simp [spR, ht, h1, h2])]
  exact tog_above hf _ (Nat.lt_succ_self _) hw ht h
theorem Fx.of {r : Sc} (h : Fx r) : ofT r = some r := by
  unfold ofT
  rw [if_pos (by simp [h.t, h.sp])]
  exact h.tog
theorem right_iff {s : Sc} (hr : Rg s) : rightB s = true ↔ Fx s := by
  unfold rightB
  rw [decide_eq_true_eq]
  exact ⟨fun h => (ofT_some hr h).1, fun h => h.of⟩
theorem Fx.right {s : Sc} (h : Fx s) : rightB s = true := (right_iff h.rg).2 h
/-- What each rule does. -/
structure RuleL (f : Sc → Sc → Option Sc) : Prop where
  below : ∀ {a b c : Sc}, Fx a → Fx b → f a b = some c → Fx c ∧ Le c a
  mono : ∀ {a b a' b' c : Sc}, Fx a → Fx b → Fx a' → Fx b' → Le a a' → Le b b' → f a b = some c → ∃ c', f a' b' = some c' ∧ Le c c'
theorem toU_lt (n : Int) : toU n < 18446744073709551616 := by unfold toU; omega
theorem wrapI_bd (n : Int) : -9223372036854775808 ≤ IntKind.i64.wrap n ∧ IntKind.i64.wrap n ≤ 9223372036854775807 := by rw [IntKind.wrap_i64]; omega
theorem wrapI_in (n : Int) (h1 : -9223372036854775808 ≤ n) (h2 : n ≤ 9223372036854775807) : IntKind.i64.wrap n = n := by rw [IntKind.wrap_i64]; omega
theorem toU_in (n : Int) (h1 : 0 ≤ n) (h2 : n < 18446744073709551616) : ((toU n : Nat) : Int) = n := by unfold toU; omega
/-- A rule that lays bounds, then brings together. -/
theorem rule_prep {f : Sc → Sc → Option Sc} (ok : Sc → Sc → Bool) (pr : Sc → Sc → Sc) (hf : ∀ a b, f a b = if ok a b then ofT (pr a b) else none)
    (hrg : ∀ {a b}, Fx a → Fx b → Rg (pr a b)) (hle : ∀ {a b}, Fx a → Fx b → ok a b = true → Le (pr a b) a) (ht : ∀ a b, (pr a b).t = a.t)
    (hok : ∀ {a b a' b'}, Fx a → Fx b → Fx a' → Fx b' → Le a a' → Le b b' → ok a b = true → ok a' b' = true)
    (hm : ∀ {a b a' b'}, Fx a → Fx b → Fx a' → Fx b' → Le a a' → Le b b' → ok a b = true → Le (pr a b) (pr a' b')) : RuleL f := by
  refine ⟨fun {a b c} ha hb h => ?_, fun {a b a' b' c} ha hb ha' hb' h1 h2 h => ?_⟩
  · rw [hf] at h
    split at h
    · rename_i hk
      obtain ⟨x, y⟩ := ofT_some (hrg ha hb) h
      exact ⟨x, y.trans (hle ha hb hk)⟩
    · cases h
  · rw [hf] at h
    split at h
    · rename_i hk
      obtain ⟨x, y⟩ := ofT_some (hrg ha hb) h
      rw [hf, if_pos (hok ha hb ha' hb' h1 h2 hk)]
      exact ofT_above x (hrg ha' hb') (by rw [ht]; exact ha'.t) (y.trans (hm ha hb ha' hb' h1 h2 hk))
    · cases h
theorem lowL (q : Bool) : RuleL (lowT q) := by
  refine rule_prep (fun a b => beUo q b.s.hi) (lowA q) (fun a b => rfl) ?_ ?_ (fun _ _ => rfl) ?_ ?_
  · intro a b ha hb
    have := ha.rg
    exact ⟨this.v, this.m, this.lo, Nat.lt_of_le_of_lt (Nat.min_le_left _ _) this.hi, this.sl, this.sh⟩
  · intro a b ha hb _
    exact ⟨leT_refl _, ⟨Nat.le_refl _, Nat.min_le_left _ _, Int.le_refl _, Int.le_refl _⟩⟩
  · intro a b a' b' ha hb ha' hb' h1 h2 hk
    have := h2.s.hi
    simp only [beUo, Bool.or_eq_true, decide_eq_true_eq] at hk ⊢
    rcases hk with hk | hk
    · exact .inl hk
    · exact .inr (by omega)
  · intro a b a' b' ha hb ha' hb' h1 h2 hk
    have e1 := h2.s.hi; have e2 := h1.s.hi; have e3 := hb'.rg.hi
    refine ⟨h1.t, ⟨h1.s.lo, ?_, h1.s.sl, h1.s.sh⟩⟩
    simp only [lowA, beU]
    cases q with
    | true => simp only [if_true]; omega
    | false =>
      simp only [beUo, Bool.false_or, decide_eq_true_eq] at hk
      have k1 := toU_in ((b.s.hi : Int) - 1) (by omega) (by omega)
      have k2 := toU_in ((b'.s.hi : Int) - 1) (by omega) (by omega)
      simp only [Bool.false_eq_true, if_false]
      omega
theorem uppL (q : Bool) : RuleL (uppT q) := by
  refine rule_prep (fun a b => abUo q b.s.lo) (uppA q) (fun a b => rfl) ?_ ?_ (fun _ _ => rfl) ?_ ?_
  · intro a b ha hb
    have := ha.rg; have h2 := hb.rg.lo
    refine ⟨this.v, this.m, ?_, this.hi, this.sl, this.sh⟩
    have h3 : abU q b.s.lo < 18446744073709551616 := by
      unfold abU
      split
      · exact h2
      · exact toU_lt _
    have h4 := this.lo
    simp only [uppA]
    omega
  · intro a b ha hb _
    exact ⟨leT_refl _, ⟨Nat.le_max_left _ _, Nat.le_refl _, Int.le_refl _, Int.le_refl _⟩⟩
  · intro a b a' b' ha hb ha' hb' h1 h2 hk
    have := h2.s.lo
    simp only [abUo, Bool.or_eq_true, decide_eq_true_eq] at hk ⊢
    rcases hk with hk | hk
    · exact .inl hk
    · exact .inr (by omega)
  · intro a b a' b' ha hb ha' hb' h1 h2 hk
    have e1 := h2.s.lo; have e2 := h1.s.lo; have e3 := hb.rg.lo
    refine ⟨h1.t, ⟨?_, h1.s.hi, h1.s.sl, h1.s.sh⟩⟩
    simp only [uppA, abU]
    cases q with
    | true => simp only [if_true]; omega
    | false =>
      simp only [abUo, Bool.false_or, decide_eq_true_eq] at hk
      have k1 := toU_in ((b.s.lo : Int) + 1) (by omega) (by omega)
      have k2 := toU_in ((b'.s.lo : Int) + 1) (by omega) (by omega)
      simp only [Bool.false_eq_true, if_false]
      omega
theorem lesL (q : Bool) : RuleL (lesT q) := by
  refine rule_prep (fun a b => beIo q b.s.sh) (lesA q) (fun a b => rfl) ?_ ?_ (fun _ _ => rfl) ?_ ?_
  · intro a b ha hb
    have := ha.rg
    exact ⟨this.v, this.m, this.lo, this.hi, this.sl, Int.le_trans (Int.min_le_left _ _) this.sh⟩
  · intro a b ha hb _
    exact ⟨leT_refl _, ⟨Nat.le_refl _, Nat.le_refl _, Int.le_refl _, Int.min_le_left _ _⟩⟩
  · intro a b a' b' ha hb ha' hb' h1 h2 hk
    have := h2.s.sh
    simp only [beIo, Bool.or_eq_true, decide_eq_true_eq] at hk ⊢
    rcases hk with hk | hk
    · exact .inl hk
    · exact .inr (by omega)
  · intro a b a' b' ha hb ha' hb' h1 h2 hk
    have e1 := h2.s.sh; have e2 := h1.s.sh; have e3 := hb'.rg.sh
    refine ⟨h1.t, ⟨h1.s.lo, h1.s.hi, h1.s.sl, ?_⟩⟩
    simp only [lesA, beI]
    cases q with
    | true => simp only [if_true]; omega
    | false =>
      simp only [beIo, Bool.false_or, decide_eq_true_eq] at hk
      have k1 := wrapI_in (b.s.sh - 1) (by omega) (by omega)
      have k2 := wrapI_in (b'.s.sh - 1) (by omega) (by omega)
      simp only [Bool.false_eq_true, if_false]
      omega
theorem morL (q : Bool) : RuleL (morT q) := by
  refine rule_prep (fun a b => abIo q b.s.sl) (morA q) (fun a b => rfl) ?_ ?_ (fun _ _ => rfl) ?_ ?_
  · intro a b ha hb
    have := ha.rg
    exact ⟨this.v, this.m, this.lo, this.hi, Int.le_trans this.sl (Int.le_max_left _ _), this.sh⟩
  · intro a b ha hb _
    exact ⟨leT_refl _, ⟨Nat.le_refl _, Nat.le_refl _, Int.le_max_left _ _, Int.le_refl _⟩⟩
  · intro a b a' b' ha hb ha' hb' h1 h2 hk
    have := h2.s.sl
    simp only [abIo, Bool.or_eq_true, decide_eq_true_eq] at hk ⊢
    rcases hk with hk | hk
    · exact .inl hk
    · exact .inr (by omega)
  · intro a b a' b' ha hb ha' hb' h1 h2 hk
    have e1 := h2.s.sl; have e2 := h1.s.sl; have e3 := hb.wf.sl; have e4 := hb'.wf.sl
    refine ⟨h1.t, ⟨h1.s.lo, h1.s.hi, ?_, h1.s.sh⟩⟩
    simp only [morA, abI]
    cases q with
    | true => simp only [if_true]; omega
    | false =>
      simp only [abIo, Bool.false_or, decide_eq_true_eq] at hk
      have k1 := wrapI_in (b.s.sl + 1) (by omega) (by omega)
      have k2 := wrapI_in (b'.s.sl + 1) (by omega) (by omega)
      simp only [Bool.false_eq_true, if_false]
      omega
theorem one_iff {s : Sc} (h : Fx s) (n : Nat) : oneT s = some n ↔ s.s.lo = n ∧ s.s.hi = n := by
  unfold oneT
  rw [h.right]
  simp only [Bool.true_and, decide_eq_true_eq]
  split
  · rename_i he; simp only [Option.some.injEq]; omega
  · rename_i he; simp only [reduceCtorEq, false_iff]; omega
theorem one_none {s : Sc} (h : Fx s) : oneT s = none ↔ s.s.lo ≠ s.s.hi := by
  unfold oneT
  rw [h.right]
  simp only [Bool.true_and, decide_eq_true_eq]
  split <;> simp_all
/-- Where the signed bounds are one, so are the others. -/
theorem Fx.signed_one {s : Sc} (h : Fx s) (he : s.s.sl = s.s.sh) : s.s.lo = s.s.hi ∧ ((s.s.lo : Nat) : Int) = if s.s.sl < 0 then s.s.sl + 18446744073709551616 else s.s.sl := by
  have hf : far4 s = false := (far4_iff s).2 (by rw [he])
  obtain ⟨a, b⟩ := h.s4 hf
  have w := h.wf
  have e1 := toU_eq s.s.sl w.sl (by have := w.i; have := w.sh; omega)
  have := w.u
  rw [← he] at b
  constructor
  · omega
  · rw [← e1]; omega
theorem endsL {a a' : Sc} (ha : Fx a) (ha' : Fx a') (h : Le a a') (n : Nat) (hn : n < 18446744073709551616) (h1 : oneT a ≠ some n) (h2 : oneT a' ≠ some n) : LeS (endsA a.s n) (endsA a'.s n) := by
  rw [Ne, one_iff ha] at h1
  rw [Ne, one_iff ha'] at h2
  have hl := h.s.lo; have hh := h.s.hi; have hsl := h.s.sl; have hsh := h.s.sh
  have wu := ha.wf.u; have wu' := ha'.wf.u; have wi := ha.wf.i; have wi' := ha'.wf.i
  have whi := ha'.wf.hi; have wsl := ha'.wf.sl; have wsh := ha'.wf.sh
  have hS := toS_eq n hn
  have s1 : a.s.sl = a.s.sh → a.s.sl ≠ toS n := fun e e2 => by
    obtain ⟨x, y⟩ := ha.signed_one e
    refine h1 ?_
    rw [e2, hS] at y
    split at y <;> split at y <;> omega
  have s2 : a'.s.sl = a'.s.sh → a'.s.sl ≠ toS n := fun e e2 => by
    obtain ⟨x, y⟩ := ha'.signed_one e
    refine h2 ?_
    rw [e2, hS] at y
    split at y <;> split at y <;> omega
  obtain ⟨t, ht⟩ : ∃ t, t = toS n := ⟨_, rfl⟩
  rw [← ht] at s1
  try rw [← ht] at s2
  clear hS
  refine ⟨?_, ?_, ?_, ?_⟩
  · simp only [endsA, ← ht]
    have k : ∀ x : Nat, x = n → x < x + 1 → (∃ y, n < y ∧ y < 18446744073709551616) → ((toU ((x : Int) + 1) : Nat) : Int) = n + 1 := fun x e _ ⟨y, p, q⟩ => by rw [toU_in] <;> omega
    split <;> split
    · rename_i e1 e2; have := k _ e1 (by omega) ⟨a'.s.hi, by omega, by omega⟩; have := k _ e2 (by omega) ⟨a'.s.hi, by omega, by omega⟩; omega
    · rename_i e1 e2; have := k _ e1 (by omega) ⟨a'.s.hi, by omega, by omega⟩; omega
    · rename_i e1 e2; have := k _ e2 (by omega) ⟨a.s.hi, by omega, by omega⟩; omega
    · omega
  · simp only [endsA, ← ht]
    have k : ∀ x : Nat, x = n → (∃ y, y < n) → ((toU ((x : Int) - 1) : Nat) : Int) = n - 1 := fun x e ⟨y, p⟩ => by rw [toU_in] <;> omega
    split <;> split
    · rename_i e1 e2; have := k _ e1 ⟨a.s.lo, by omega⟩; have := k _ e2 ⟨a'.s.lo, by omega⟩; omega
    · rename_i e1 e2; have := k _ e1 ⟨a.s.lo, by omega⟩; omega
    · rename_i e1 e2; have := k _ e2 ⟨a'.s.lo, by omega⟩; omega
    · omega
  · simp only [endsA, ← ht]
    have k : ∀ x : Int, x = t → (∃ y, t < y ∧ y ≤ 9223372036854775807) → -9223372036854775808 ≤ t → IntKind.i64.wrap (x + 1) = t + 1 := fun x e ⟨y, p, q⟩ r => by rw [wrapI_in] <;> omega
    split <;> split
    · rename_i e1 e2; have := k _ e1 ⟨a'.s.sh, by omega, by omega⟩ (by omega); have := k _ e2 ⟨a'.s.sh, by omega, by omega⟩ (by omega); omega
    · rename_i e1 e2; have := k _ e1 ⟨a'.s.sh, by omega, by omega⟩ (by omega); omega
    · rename_i e1 e2; have := k _ e2 ⟨a.s.sh, by omega, by omega⟩ (by omega); omega
    · omega
  · simp only [endsA, ← ht]
    have k : ∀ x : Int, x = t → (∃ y, y < t ∧ -9223372036854775808 ≤ y) → t ≤ 9223372036854775807 → IntKind.i64.wrap (x - 1) = t - 1 := fun x e ⟨y, p, q⟩ r => by rw [wrapI_in] <;> omega
    split <;> split
    · rename_i e1 e2; have := k _ e1 ⟨a.s.sl, by omega, by omega⟩ (by omega); have := k _ e2 ⟨a'.s.sl, by omega, by omega⟩ (by omega); omega
    · rename_i e1 e2; have := k _ e1 ⟨a.s.sl, by omega, by omega⟩ (by omega); omega
    · rename_i e1 e2; have := k _ e2 ⟨a'.s.sl, by omega, by omega⟩ (by omega); omega
    · omega
theorem ends_self {a : Sc} (ha : Fx a) (n : Nat) (hn : n < 18446744073709551616) (h1 : oneT a ≠ some n) : LeS (endsA a.s n) a.s := by
  rw [Ne, one_iff ha] at h1
  have wu := ha.wf.u; have wi := ha.wf.i
  have whi := ha.wf.hi; have wsl := ha.wf.sl; have wsh := ha.wf.sh
  have hS := toS_eq n hn
  have s1 : a.s.sl = a.s.sh → a.s.sl ≠ toS n := fun e e2 => by
    obtain ⟨x, y⟩ := ha.signed_one e
    refine h1 ?_
    rw [e2, hS] at y
    split at y <;> split at y <;> omega
  obtain ⟨t, ht⟩ : ∃ t, t = toS n := ⟨_, rfl⟩
  rw [← ht] at s1
  try rw [← ht] at s2
  clear hS
  refine ⟨?_, ?_, ?_, ?_⟩
  · simp only [endsA, ← ht]
    split
    · rename_i e
      have := toU_in ((a.s.lo : Int) + 1) (by omega) (by omega)
      omega
    · omega
  · simp only [endsA, ← ht]
    split
    · rename_i e
      have := toU_in ((a.s.hi : Int) - 1) (by omega) (by omega)
      omega
    · omega
  · simp only [endsA, ← ht]
    split
    · rename_i e
      rw [wrapI_in _ (by omega) (by omega)]
      omega
    · omega
  · simp only [endsA, ← ht]
    split
    · rename_i e
      rw [wrapI_in _ (by omega) (by omega)]
      omega
    · omega
theorem endsRg {a : Sc} (ha : Rg a) (n : Nat) : Rg ⟨a.t, endsA a.s n⟩ := by
  refine ⟨ha.v, ha.m, ?_, ?_, ?_, ?_⟩
  · simp only [endsA]; split
    · exact toU_lt _
    · exact ha.lo
  · simp only [endsA]; split
    · exact toU_lt _
    · exact ha.hi
  · simp only [endsA]; split
    · exact (wrapI_bd _).1
    · exact ha.sl
  · simp only [endsA]; split
    · exact (wrapI_bd _).2
    · exact ha.sh
theorem otherL : RuleL otherT := by
  refine ⟨fun {a b c} ha hb h => ?_, fun {a b a' b' c} ha hb ha' hb' h1 h2 h => ?_⟩
  · unfold otherT at h
    split at h
    · cases h; exact ⟨ha, Le.refl _⟩
    · rename_i n hn
      have hn64 : n < 18446744073709551616 := by have := (one_iff hb n).1 hn; have := hb.rg.lo; omega
      split at h
      · cases h
      · rename_i hne
        obtain ⟨x, y⟩ := ofT_some (endsRg ha.rg n) h
        exact ⟨x, y.trans ⟨leT_refl _, ends_self ha n hn64 hne⟩⟩
  · have hbl : Fx c ∧ Le c a := by
      unfold otherT at h
      split at h
      · cases h; exact ⟨ha, Le.refl _⟩
      · rename_i n hn
        have hn64 : n < 18446744073709551616 := by have := (one_iff hb n).1 hn; have := hb.rg.lo; omega
        split at h
        · cases h
        · rename_i hne
          obtain ⟨x, y⟩ := ofT_some (endsRg ha.rg n) h
          exact ⟨x, y.trans ⟨leT_refl _, ends_self ha n hn64 hne⟩⟩
    cases hb1 : oneT b' with
    | none =>
      refine ⟨a', by unfold otherT; rw [hb1], hbl.2.trans h1⟩
    | some n =>
      have e := (one_iff hb' n).1 hb1
      have hn64 : n < 18446744073709551616 := by have := hb'.rg.lo; omega
      have hb2 : oneT b = some n := (one_iff hb n).2 (by have := h2.s.lo; have := h2.s.hi; have := hb.wf.u; omega)
      have h' : otherT a b = if oneT a = some n then none else ofT ⟨a.t, endsA a.s n⟩ := by unfold otherT; rw [hb2]
      rw [h'] at h
      split at h
      · cases h
      · rename_i hne
        have hne' : oneT a' ≠ some n := fun he => by
          have e2 := (one_iff ha' n).1 he
          exact hne ((one_iff ha n).2 (by have := h1.s.lo; have := h1.s.hi; have := ha.wf.u; omega))
        obtain ⟨x, y⟩ := ofT_some (endsRg ha.rg n) h
        obtain ⟨c', p, q⟩ := ofT_above x (endsRg ha'.rg n) ha'.t (y.trans (b := ⟨a.t, endsA a.s n⟩) ⟨h1.t, endsL ha ha' h1 n hn64 hne hne'⟩)
        refine ⟨c', ?_, q⟩
        unfold otherT
        rw [hb1]
        simp only
        rw [if_neg hne']
        exact p
theorem bit_unot (n i : Nat) (h : n < 18446744073709551616) : (unot n).testBit i = (decide (i < 64) && !n.testBit i) := by
  unfold unot
  rw [show 18446744073709551615 - n = 2 ^ 64 - (n + 1) by omega]
  exact Nat.testBit_two_pow_sub_succ h i
theorem unot_lt (n : Nat) : unot n < 18446744073709551616 := by unfold unot; omega
theorem knownRg {a : Sc} (ha : Rg a) (w o : Nat) (h : meetB a.t ⟨o, unot w⟩ = true) : Rg ⟨meetT a.t ⟨o, unot w⟩, a.s⟩ := by
  rw [meetT_at h]
  exact ⟨uor_lt _ _, uand_lt _ _, ha.lo, ha.hi, ha.sl, ha.sh⟩
theorem known_below {a c : Sc} {w o : Nat} (ha : Fx a) (h : knownT a w o = some c) : Fx c ∧ Le c a ∧ leT c.t ⟨o, unot w⟩ := by
  unfold knownT at h
  split at h
  · rename_i hm
    obtain ⟨x, y⟩ := ofT_some (knownRg ha.rg w o hm) h
    refine ⟨x, y.trans ⟨meet_left hm, (Le.refl a).s⟩, leT_trans y.t ?_⟩
    rw [meetT_comm]
    exact meet_left (by rw [meetB_comm]; exact hm)
  · cases h
theorem known_above {c a : Sc} {w o : Nat} (hc : Fx c) (ha : Fx a) (h1 : Le c a) (h2 : leT c.t ⟨o, unot w⟩) (ho : tnR ⟨o, unot w⟩ = true) : ∃ c', knownT a w o = some c' ∧ Le c c' := by
  obtain ⟨hm, hl⟩ := meet_of_le h1.t h2 ha.t ho
  unfold knownT
  rw [if_pos hm]
  exact ofT_above hc (knownRg ha.rg w o hm) (meet_right hm) ⟨hl, h1.s⟩
theorem noneR (v : Nat) : tnR ⟨0, v⟩ = true := by
  rw [tnR_iff]
  intro i _ _
  exact Nat.zero_testBit i
theorem noneL : RuleL noneT := by
  refine ⟨fun {a b c} ha hb h => ?_, fun {a b a' b' c} ha hb ha' hb' h1 h2 h => ?_⟩
  · obtain ⟨x, y, _⟩ := known_below ha h
    exact ⟨x, y⟩
  · obtain ⟨x, y, z⟩ := known_below ha h
    refine known_above x ha' (y.trans h1) (leT_trans z ?_) (noneR _)
    intro i hi
    have k := h2.t i hi
    have k2 := tnR_iff.1 hb'.t i hi
    simp only [bit_unot _ _ hb.rg.v, bit_unot _ _ hb'.rg.v, hi, decide_true, Bool.true_and, Nat.zero_testBit, and_true]
    revert k k2
    cases b.t.v.testBit i <;> cases b'.t.v.testBit i <;> cases b'.t.m.testBit i <;> simp
theorem maybe_le {a a' : Sc} (h : Le a a') (i : Nat) (hi : i < 64) (hx : (maybeN a).testBit i = true) : (maybeN a').testBit i = true := by
  have k := h.t i hi
  simp only [maybeN, bit_uor, hi, decide_true, Bool.true_and] at hx ⊢
  rcases k with k | ⟨k1, k2, k3⟩
  · simp [k]
  · rw [k2, Bool.or_false] at hx
    simp [← k3, hx]
theorem single_pow {n : Nat} (hn : n < 18446744073709551616) (h : single n = true) : ∃ k, k < 64 ∧ n = 2 ^ k := by
  simp only [single, Bool.and_eq_true, bne_iff_ne, ne_eq, beq_iff_eq] at h
  obtain ⟨h0, h1⟩ := h
  refine ⟨n.log2, ?_, ?_⟩
  · exact (Nat.log2_lt h0).2 hn
  · by_cases he : n = 2 ^ n.log2
    · exact he
    · exfalso
      have hlo := Nat.log2_self_le h0
      have hhi := Nat.lt_log2_self (n := n)
      have hlt : n.log2 < 64 := (Nat.log2_lt h0).2 hn
      have b1 : n.testBit n.log2 = true := Nat.testBit_log2 h0
      have b2 : (n - 1).testBit n.log2 = true := by
        have : (n - 1).log2 = n.log2 := by
          rw [Nat.log2_eq_iff (by omega)]
          exact ⟨by omega, by omega⟩
        rw [← this]
        exact Nat.testBit_log2 (by omega)
      have := congrArg (fun x => x.testBit n.log2) h1
      simp only [bit_uand, hlt, decide_true, Bool.true_and, b1, b2, Nat.zero_testBit, Bool.and_self] at this
      cases this
theorem single_sub {m n : Nat} (hn : n < 18446744073709551616) (hm : m < 18446744073709551616) (h : single n = true) (h0 : m ≠ 0) (hs : ∀ i, i < 64 → m.testBit i = true → n.testBit i = true) : m = n := by
  obtain ⟨k, hk, rfl⟩ := single_pow hn h
  refine eq_of_bits hm hn (fun i hi => ?_)
  rw [Nat.testBit_two_pow]
  have key : ∀ j, j < 64 → m.testBit j = true → j = k := fun j hj hb => by
    have := hs j hj hb
    rw [Nat.testBit_two_pow] at this
    simpa using Eq.symm (of_decide_eq_true this)
  by_cases he : k = i
  · subst he
    rw [decide_eq_true rfl]
    cases hb : m.testBit k with
    | true => rfl
    | false =>
      exfalso
      refine h0 (zero_of_bits hm (fun j hj => ?_))
      cases hb2 : m.testBit j with
      | false => rfl
      | true => rw [key j hj hb2, hb] at hb2; cases hb2
  · rw [decide_eq_false he]
    cases hb : m.testBit i with
    | false => rfl
    | true => exact absurd (key i hi hb).symm he
theorem setR {m : Nat} (hm : m < 18446744073709551616) : tnR ⟨m, unot m⟩ = true := by
  rw [tnR_iff]
  intro i hi h
  simp only [bit_unot _ _ hm, hi, decide_true, Bool.true_and] at h
  simpa using h
theorem someL : RuleL someT := by
  refine ⟨fun {a b c} ha hb h => ?_, fun {a b a' b' c} ha hb ha' hb' h1 h2 h => ?_⟩
  · unfold someT at h
    split at h
    · cases h
    · split at h
      · obtain ⟨x, y, _⟩ := known_below ha h
        exact ⟨x, y⟩
      · cases h; exact ⟨ha, Le.refl _⟩
  · have hsub : ∀ i, i < 64 → (uand (maybeN a) (maybeN b)).testBit i = true → (uand (maybeN a') (maybeN b')).testBit i = true := fun i hi hx => by
      simp only [bit_uand, hi, decide_true, Bool.true_and, Bool.and_eq_true] at hx ⊢
      exact ⟨maybe_le h1 i hi hx.1, maybe_le h2 i hi hx.2⟩
    have hz : uand (maybeN a) (maybeN b) ≠ 0 := fun e => by unfold someT at h; rw [if_pos e] at h; cases h
    have hz' : uand (maybeN a') (maybeN b') ≠ 0 := fun e => by
      refine hz (zero_of_bits (uand_lt _ _) (fun i hi => ?_))
      cases hb3 : (uand (maybeN a) (maybeN b)).testBit i with
      | false => rfl
      | true => have := hsub i hi hb3; rw [e, Nat.zero_testBit] at this; cases this
    by_cases hs : single (uand (maybeN a') (maybeN b')) = true
    · have he := single_sub (uand_lt _ _) (uand_lt _ _) hs hz hsub
      unfold someT at h ⊢
      rw [if_neg hz, he, if_pos hs] at h
      rw [if_neg hz', if_pos hs]
      obtain ⟨x, y, z⟩ := known_below ha h
      exact known_above x ha' (y.trans h1) z (setR (uand_lt _ _))
    · refine ⟨a', by unfold someT; rw [if_neg hz', if_neg hs], ?_⟩
      have hbl : Le c a := by
        unfold someT at h
        rw [if_neg hz] at h
        split at h
        · exact (known_below ha h).2.1
        · cases h; exact Le.refl _
      exact hbl.trans h1
theorem spMeet_comm (a b : Sp) : spMeet a b = spMeet b a := by
  simp only [spMeet, Nat.max_comm a.lo, Nat.min_comm a.hi, Int.max_comm a.sl, Int.min_comm a.sh]
theorem scMeet_comm (a b : Sc) : scMeetT a b = scMeetT b a := by
  unfold scMeetT spMeetB
  rw [meetB_comm, meetT_comm, spMeet_comm]
  rw [Bool.and_comm (rightB a), Bool.and_comm (spR a.s)]
theorem spMeetRg {a b : Sc} (ha : Rg a) (hb : Rg b) (h : meetB a.t b.t = true) : Rg ⟨meetT a.t b.t, spMeet a.s b.s⟩ := by
  rw [meetT_at h]
  have h1 := ha.lo; have h2 := hb.lo; have h3 := ha.hi; have h4 := ha.sl; have h5 := ha.sh
  exact ⟨uor_lt _ _, uand_lt _ _, by simp only [spMeet]; omega, by simp only [spMeet]; omega, by simp only [spMeet]; omega, by simp only [spMeet]; omega⟩
theorem scMeetL : RuleL scMeetT := by
  have bl : ∀ {a b c : Sc}, Fx a → Fx b → scMeetT a b = some c → Fx c ∧ Le c a ∧ Le c b := fun {a b c} ha hb h => by
    unfold scMeetT at h
    split at h
    · rename_i hk
      simp only [Bool.and_eq_true] at hk
      obtain ⟨x, y⟩ := ofT_some (spMeetRg ha.rg hb.rg hk.1.2) h
      refine ⟨x, y.trans ⟨meet_left hk.1.2, ?_⟩, y.trans ⟨?_, ?_⟩⟩
      · exact ⟨by simp only [spMeet]; omega, by simp only [spMeet]; omega, by simp only [spMeet]; omega, by simp only [spMeet]; omega⟩
      · simp only
        rw [meetT_comm]
        exact meet_left (by rw [meetB_comm]; exact hk.1.2)
      · exact ⟨by simp only [spMeet]; omega, by simp only [spMeet]; omega, by simp only [spMeet]; omega, by simp only [spMeet]; omega⟩
    · cases h
  refine ⟨fun {a b c} ha hb h => ⟨(bl ha hb h).1, (bl ha hb h).2.1⟩, fun {a b a' b' c} ha hb ha' hb' h1 h2 h => ?_⟩
  obtain ⟨x, y, z⟩ := bl ha hb h
  have y' := y.trans h1
  have z' := z.trans h2
  obtain ⟨hm, hl⟩ := meet_of_le y'.t z'.t ha'.t hb'.t
  have l1 := y'.s.lo; have l2 := z'.s.lo; have l3 := y'.s.hi; have l4 := z'.s.hi; have l5 := y'.s.sl; have l6 := z'.s.sl; have l7 := y'.s.sh; have l8 := z'.s.sh
  have wu := x.wf.u; have wi := x.wf.i
  have hle : LeS c.s (spMeet a'.s b'.s) := ⟨by simp only [spMeet]; omega, by simp only [spMeet]; omega, by simp only [spMeet]; omega, by simp only [spMeet]; omega⟩
  have hsp : spR (spMeet a'.s b'.s) = true := by
    have q1 := hle.lo; have q2 := hle.hi; have q3 := hle.sl; have q4 := hle.sh
    simp only [spR, Bool.and_eq_true, decide_eq_true_eq]
    exact ⟨by omega, by omega⟩
  unfold scMeetT spMeetB
  rw [if_pos (by simp [ha'.right, hb'.right, hm, ha'.sp, hb'.sp, hsp])]
  exact ofT_above x (spMeetRg ha'.rg hb'.rg hm) (meet_right hm) ⟨hl, hle⟩
theorem failL : RuleL (fun _ _ => none) := by
  refine ⟨fun {a b c} ha hb h => ?_, fun {a b a' b' c} ha hb ha' hb' h1 h2 h => ?_⟩
  · cases h
  · cases h
theorem ruleL (op : Nat) (side : Bool) : RuleL (ruleT op side) := by
  unfold ruleT
  split
  · exact scMeetL
  · exact otherL
  · exact someL
  · exact noneL
  all_goals first | (cases side; (first | exact lowL _ | exact uppL _ | exact lesL _ | exact morL _); (first | exact lowL _ | exact uppL _ | exact lesL _ | exact morL _)) | exact failL
theorem hold_below {op : Nat} {a b c d : Sc} (ha : Fx a) (hb : Fx b) (h : holdT op a b = some (c, d)) : Fx c ∧ Le c a ∧ Fx d ∧ Le d b := by
  unfold holdT at h
  obtain ⟨x, h1, h2⟩ := Option.bind_eq_some_iff.1 h
  obtain ⟨y, h3, h4⟩ := Option.map_eq_some_iff.1 h2
  cases h4
  obtain ⟨p, q⟩ := (ruleL op false).below ha hb h1
  obtain ⟨r, s⟩ := (ruleL op true).below hb ha h3
  exact ⟨p, q, r, s⟩
theorem hold_mono {op : Nat} {a b a' b' c d : Sc} (ha : Fx a) (hb : Fx b) (ha' : Fx a') (hb' : Fx b') (l1 : Le a a') (l2 : Le b b') (h : holdT op a b = some (c, d)) : ∃ c' d', holdT op a' b' = some (c', d') ∧ Le c c' ∧ Le d d' := by
  unfold holdT at h
  obtain ⟨x, h1, h2⟩ := Option.bind_eq_some_iff.1 h
  obtain ⟨y, h3, h4⟩ := Option.map_eq_some_iff.1 h2
  cases h4
  obtain ⟨c', p, q⟩ := (ruleL op false).mono ha hb ha' hb' l1 l2 h1
  obtain ⟨d', r, s⟩ := (ruleL op true).mono hb ha hb' ha' l2 l1 h3
  exact ⟨c', d', by unfold holdT; rw [p, Option.bind_some, r]; rfl, q, s⟩
end Go.Proofs.Ytmbmmcippglfoaa.M
namespace Go.Proofs.Ytmbmmcippglfoaa.M
open Go.RowKit
set_option linter.unusedVariables false
set_option linter.unusedSectionVars false
set_option linter.unusedSimpArgs false
def wordS (x : Nat) : Sc := ⟨⟨x, 0⟩, ⟨x, x, toS x, toS x⟩⟩
def tnHas (t : Tn) (n : Nat) : Bool := tnR t && (undn n t.m == t.v)
def tnLeq (a b : Tn) : Bool := tnR a && tnR b && (undn a.m b.m == 0) && (undn a.v b.m == b.v)
def spLeq (a b : Sp) : Bool := spR a && spR b && decide (b.lo ≤ a.lo) && decide (a.hi ≤ b.hi) && decide (b.sl ≤ a.sl) && decide (a.sh ≤ b.sh)
def hasT (s : Sc) (n : Nat) : Bool := rightB s && tnHas s.t n && spLeq (wordS n).s s.s
def leqT (a b : Sc) : Bool := rightB a && rightB b && tnLeq a.t b.t && spLeq a.s b.s
theorem undn_self (x : Nat) (h : x < 18446744073709551616) : undn x 0 = x := by
  refine eq_of_bits (undn_lt _ _) h (fun i hi => ?_)
  rw [bit_undn]
  simp [hi]
theorem uor_zero (x : Nat) (h : x < 18446744073709551616) : uor x 0 = x := by unfold uor; rw [Nat.or_zero, Nat.mod_eq_of_lt h]
theorem uor_self (x : Nat) (h : x < 18446744073709551616) : uor x x = x := by unfold uor; rw [Nat.or_self, Nat.mod_eq_of_lt h]
theorem uand_zero (x : Nat) : uand x 0 = 0 := by unfold uand; rw [Nat.and_zero]
theorem toS_bd (x : Nat) : -9223372036854775808 ≤ toS x ∧ toS x ≤ 9223372036854775807 := wrapI_bd _
theorem toS_inj {x y : Nat} (hx : x < 18446744073709551616) (hy : y < 18446744073709551616) (h : toS x = toS y) : x = y := by
  rw [toS_eq x hx, toS_eq y hy] at h
  split at h <;> split at h <;> omega
theorem toU_toS (x : Nat) (h : x < 18446744073709551616) : toU (toS x) = x := by
  rw [toS_eq x h]
  unfold toU
  split <;> omega
theorem wordFx (x : Nat) (h : x < 18446744073709551616) : Fx (wordS x) := by
  have hb := toS_bd x
  have ht : tnR (⟨x, 0⟩ : Tn) = true := by rw [tnR_iff]; intro i _ hm; rw [Nat.zero_testBit] at hm; cases hm
  have hR : rangeT x x = ⟨x, 0⟩ := by rw [undn_zero_self, undn_self x h]
  have hmB : meetB (⟨x, 0⟩ : Tn) ⟨x, 0⟩ = true := meetB_iff.2 ⟨ht, ht, fun _ _ _ _ => rfl⟩
  refine ⟨⟨h, by simp [wordS], Nat.le_refl _, h, Int.le_refl _, hb.1, hb.2⟩, ht, fun i hi => ?_⟩
  match i with
  | 0 => simp [okk, ok1, rk, r1, wordS, uor_zero x h]
  | 1 =>
    refine ⟨?_, ?_⟩
    · simp only [okk, ok2, wordS, hR, hmB]
    · simp only [rk, r2, wordS, hR, meetT_at hmB, uor_self x h, uand_zero]
  | 2 => simp [okk, ok3, rk, r3, wordS]
  | 3 => simp [okk, ok4, rk, r4, wordS, toU_toS x h]
theorem le_word_iff {s : Sc} (hs : Rg s) (x : Nat) (h : x < 18446744073709551616) : (tnHas s.t x = true ∧ spLeq (wordS x).s s.s = true) ↔ (tnR s.t = true ∧ spR s.s = true ∧ Le (wordS x) s) := by
  unfold tnHas spLeq
  simp only [Bool.and_eq_true, beq_iff_eq, decide_eq_true_eq]
  constructor
  · rintro ⟨⟨h1, h2⟩, ⟨⟨⟨⟨_, h3⟩, h4⟩, h5⟩, h6⟩, h7⟩
    refine ⟨h1, h3, ⟨fun i hi => ?_, ⟨h4, h5, h6, h7⟩⟩⟩
    have h8 := congrArg (fun n => n.testBit i) h2
    have h9 := tnR_iff.1 h1 i hi
    simp only [bit_undn, hi, decide_true, Bool.true_and] at h8
    simp only [wordS, Nat.zero_testBit, true_and]
    revert h8 h9
    cases x.testBit i <;> cases s.t.m.testBit i <;> cases s.t.v.testBit i <;> simp
  · rintro ⟨h1, h3, ⟨ht, ⟨h4, h5, h6, h7⟩⟩⟩
    refine ⟨⟨h1, ?_⟩, ⟨⟨⟨⟨(wordFx x h).sp, h3⟩, h4⟩, h5⟩, h6⟩, h7⟩
    refine eq_of_bits (undn_lt _ _) hs.v (fun i hi => ?_)
    have h8 := ht i hi
    have h9 := tnR_iff.1 h1 i hi
    simp only [wordS, Nat.zero_testBit, true_and] at h8
    simp only [bit_undn, hi, decide_true, Bool.true_and]
    revert h8 h9
    cases x.testBit i <;> cases s.t.m.testBit i <;> cases s.t.v.testBit i <;> simp
theorem has_iff {s : Sc} (hs : Rg s) (x : Nat) (h : x < 18446744073709551616) : hasT s x = true ↔ Fx s ∧ Le (wordS x) s := by
  unfold hasT
  rw [Bool.and_eq_true, Bool.and_eq_true, right_iff hs, and_assoc, le_word_iff hs x h]
  exact ⟨fun ⟨a, _, _, b⟩ => ⟨a, b⟩, fun ⟨a, b⟩ => ⟨a, a.t, a.sp, b⟩⟩
theorem leq_iff {a b : Sc} (ha : Rg a) (hb : Rg b) : leqT a b = true ↔ Fx a ∧ Fx b ∧ Le a b := by
  unfold leqT tnLeq spLeq
  simp only [Bool.and_eq_true, beq_iff_eq, decide_eq_true_eq, right_iff ha, right_iff hb]
  constructor
  · rintro ⟨⟨⟨h1, h2⟩, ⟨⟨t1, t2⟩, t3⟩, t4⟩, ⟨⟨⟨⟨s1, s2⟩, s3⟩, s4⟩, s5⟩, s6⟩
    refine ⟨h1, h2, ⟨fun i hi => ?_, ⟨s3, s4, s5, s6⟩⟩⟩
    have k1 := congrArg (fun n => n.testBit i) t3
    have k2 := congrArg (fun n => n.testBit i) t4
    have k3 := tnR_iff.1 t1 i hi
    have k4 := tnR_iff.1 t2 i hi
    simp only [bit_undn, hi, decide_true, Bool.true_and, Nat.zero_testBit] at k1 k2
    revert k1 k2 k3 k4
    cases a.t.v.testBit i <;> cases a.t.m.testBit i <;> cases b.t.m.testBit i <;> cases b.t.v.testBit i <;> simp
  · rintro ⟨h1, h2, ⟨ht, ⟨s3, s4, s5, s6⟩⟩⟩
    refine ⟨⟨⟨h1, h2⟩, ⟨⟨h1.t, h2.t⟩, ?_⟩, ?_⟩, ⟨⟨⟨⟨h1.sp, h2.sp⟩, s3⟩, s4⟩, s5⟩, s6⟩
    · refine zero_of_bits (undn_lt _ _) (fun i hi => ?_)
      have k := ht i hi
      have k3 := tnR_iff.1 h1.t i hi
      simp only [bit_undn, hi, decide_true, Bool.true_and]
      revert k k3
      cases a.t.v.testBit i <;> cases a.t.m.testBit i <;> cases b.t.m.testBit i <;> cases b.t.v.testBit i <;> simp
    · refine eq_of_bits (undn_lt _ _) hb.v (fun i hi => ?_)
      have k := ht i hi
      have k3 := tnR_iff.1 h1.t i hi
      have k4 := tnR_iff.1 h2.t i hi
      simp only [bit_undn, hi, decide_true, Bool.true_and]
      revert k k3 k4
      cases a.t.v.testBit i <;> cases a.t.m.testBit i <;> cases b.t.m.testBit i <;> cases b.t.v.testBit i <;> simp
def testB (op x y : Nat) : Bool := match op with
  | 16 => decide (x = y)
  | 80 => decide (x ≠ y)
  | 32 => decide (y < x)
  | 48 => decide (y ≤ x)
  | 160 => decide (x < y)
  | 176 => decide (x ≤ y)
  | 96 => decide (toS y < toS x)
  | 112 => decide (toS y ≤ toS x)
  | 192 => decide (toS x < toS y)
  | 208 => decide (toS x ≤ toS y)
  | 64 => decide (uand x y ≠ 0)
  | 1 => decide (uand x y = 0)
  | _ => false
def WordR (f : Sc → Sc → Option Sc) (P : Nat → Nat → Prop) : Prop := ∀ x y, x < 18446744073709551616 → y < 18446744073709551616 → P x y → ∃ c, f (wordS x) (wordS y) = some c ∧ Le (wordS x) c
theorem lowW (q : Bool) : WordR (lowT q) (fun x y => if q then x ≤ y else x < y) := fun x y hx hy h => by
  have e : lowA q (wordS x) (wordS y) = wordS x := by
    cases q with
    | true => simp only [if_true] at h; simp only [lowA, beU, wordS, if_true, Nat.min_eq_left h]
    | false =>
      simp only [Bool.false_eq_true, if_false] at h
      have k := toU_in ((y : Int) - 1) (by omega) (by omega)
      simp only [lowA, beU, wordS, Bool.false_eq_true, if_false, Nat.min_eq_left (show x ≤ toU ((y : Int) - 1) by omega)]
  refine ⟨wordS x, ?_, Le.refl _⟩
  unfold lowT
  rw [e, if_pos, (wordFx x hx).of]
  cases q with
  | true => rfl
  | false => simp only [Bool.false_eq_true, if_false] at h; show decide (0 < y) = true; exact decide_eq_true (by omega)
theorem uppW (q : Bool) : WordR (uppT q) (fun x y => if q then y ≤ x else y < x) := fun x y hx hy h => by
  have e : uppA q (wordS x) (wordS y) = wordS x := by
    cases q with
    | true => simp only [if_true] at h; simp only [uppA, abU, wordS, if_true, Nat.max_eq_left h]
    | false =>
      simp only [Bool.false_eq_true, if_false] at h
      have k := toU_in ((y : Int) + 1) (by omega) (by omega)
      simp only [uppA, abU, wordS, Bool.false_eq_true, if_false, Nat.max_eq_left (show toU ((y : Int) + 1) ≤ x by omega)]
  refine ⟨wordS x, ?_, Le.refl _⟩
  unfold uppT
  rw [e, if_pos, (wordFx x hx).of]
  cases q with
  | true => rfl
  | false => simp only [Bool.false_eq_true, if_false] at h; show decide (y < 18446744073709551615) = true; exact decide_eq_true (by omega)
theorem lesW (q : Bool) : WordR (lesT q) (fun x y => if q then toS x ≤ toS y else toS x < toS y) := fun x y hx hy h => by
  have bx := toS_bd x
  have bY := toS_bd y
  have e : lesA q (wordS x) (wordS y) = wordS x := by
    cases q with
    | true => simp only [if_true] at h; simp only [lesA, beI, wordS, if_true, Int.min_eq_left h]
    | false =>
      simp only [Bool.false_eq_true, if_false] at h
      have k := wrapI_in (toS y - 1) (by omega) (by omega)
      simp only [lesA, beI, wordS, Bool.false_eq_true, if_false, Int.min_eq_left (show toS x ≤ IntKind.i64.wrap (toS y - 1) by omega)]
  refine ⟨wordS x, ?_, Le.refl _⟩
  unfold lesT
  rw [e, if_pos, (wordFx x hx).of]
  cases q with
  | true => rfl
  | false => simp only [Bool.false_eq_true, if_false] at h; show decide (-9223372036854775808 < toS y) = true; exact decide_eq_true (by omega)
theorem morW (q : Bool) : WordR (morT q) (fun x y => if q then toS y ≤ toS x else toS y < toS x) := fun x y hx hy h => by
  have bx := toS_bd x
  have bY := toS_bd y
  have e : morA q (wordS x) (wordS y) = wordS x := by
    cases q with
    | true => simp only [if_true] at h; simp only [morA, abI, wordS, if_true, Int.max_eq_left h]
    | false =>
      simp only [Bool.false_eq_true, if_false] at h
      have k := wrapI_in (toS y + 1) (by omega) (by omega)
      simp only [morA, abI, wordS, Bool.false_eq_true, if_false, Int.max_eq_left (show IntKind.i64.wrap (toS y + 1) ≤ toS x by omega)]
  refine ⟨wordS x, ?_, Le.refl _⟩
  unfold morT
  rw [e, if_pos, (wordFx x hx).of]
  cases q with
  | true => rfl
  | false => simp only [Bool.false_eq_true, if_false] at h; show decide (toS y < 9223372036854775807) = true; exact decide_eq_true (by omega)
theorem one_word (x : Nat) (hx : x < 18446744073709551616) : oneT (wordS x) = some x := (one_iff (wordFx x hx) x).2 ⟨rfl, rfl⟩
theorem otherW : WordR otherT (fun x y => x ≠ y) := fun x y hx hy h => by
  have h : x ≠ y := h
  have hs : toS x ≠ toS y := fun e => h (toS_inj hx hy e)
  refine ⟨wordS x, ?_, Le.refl _⟩
  unfold otherT
  rw [one_word x hx, one_word y hy]
  simp only
  rw [if_neg (by simpa using h)]
  have e : (⟨(wordS x).t, endsA (wordS x).s y⟩ : Sc) = wordS x := by simp [wordS, endsA, h, hs]
  rw [e, (wordFx x hx).of]
theorem meetW : WordR scMeetT (fun x y => x = y) := fun x y hx hy h => by
  subst h
  have f := wordFx x hx
  obtain ⟨hm, hl⟩ := meet_of_le (r := (wordS x).t) (leT_refl _) (leT_refl _) f.t f.t
  unfold scMeetT
  have e : spMeet (wordS x).s (wordS x).s = (wordS x).s := by simp [spMeet]
  rw [if_pos (by simp [f.right, hm, spMeetB, e, f.sp])]
  exact ofT_above f (spMeetRg f.rg f.rg hm) (meet_right hm) ⟨hl, by rw [e]; exact (Le.refl _).s⟩
theorem maybe_word (x : Nat) (hx : x < 18446744073709551616) : maybeN (wordS x) = x := uor_zero x hx
theorem someW : WordR someT (fun x y => uand x y ≠ 0) := fun x y hx hy h => by
  unfold someT
  rw [maybe_word x hx, maybe_word y hy, if_neg h]
  split
  · refine known_above (wordFx x hx) (wordFx x hx) (Le.refl _) ?_ (setR (uand_lt _ _))
    intro i hi
    simp only [bit_unot _ _ (uand_lt _ _), bit_uand, hi, decide_true, Bool.true_and, wordS, Nat.zero_testBit, true_and]
    cases x.testBit i <;> cases y.testBit i <;> simp
  · exact ⟨_, rfl, Le.refl _⟩
theorem noneW : WordR noneT (fun x y => uand x y = 0) := fun x y hx hy h => by
  unfold noneT
  refine known_above (wordFx x hx) (wordFx x hx) (Le.refl _) ?_ (noneR _)
  intro i hi
  have k := congrArg (fun n => n.testBit i) h
  simp only [bit_uand, hi, decide_true, Bool.true_and, Nat.zero_testBit] at k
  simp only [wordS, bit_unot _ _ hy, hi, decide_true, Bool.true_and, Nat.zero_testBit, true_and]
  revert k
  cases x.testBit i <;> cases y.testBit i <;> simp
theorem hold_word (op x y : Nat) (hx : x < 18446744073709551616) (hy : y < 18446744073709551616) (h : testB op x y = true) : ∃ c d, holdT op (wordS x) (wordS y) = some (c, d) ∧ Le (wordS x) c ∧ Le (wordS y) d := by
  have go : ∀ {P Q : Nat → Nat → Prop}, WordR (ruleT op false) P → WordR (ruleT op true) Q → P x y → Q y x → ∃ c d, holdT op (wordS x) (wordS y) = some (c, d) ∧ Le (wordS x) c ∧ Le (wordS y) d := fun {P Q} h1 h2 p q => by
    obtain ⟨c, e1, l1⟩ := h1 x y hx hy p
    obtain ⟨d, e2, l2⟩ := h2 y x hy hx q
    exact ⟨c, d, by unfold holdT; rw [e1, Option.bind_some, e2]; rfl, l1, l2⟩
  unfold testB at h
  split at h
  · have h := of_decide_eq_true h; exact go meetW meetW h h.symm
  · have h := of_decide_eq_true h; exact go otherW otherW h (Ne.symm h)
  · have h := of_decide_eq_true h; exact go (uppW false) (lowW false) (by simpa using h) (by simpa using h)
  · have h := of_decide_eq_true h; exact go (uppW true) (lowW true) (by simpa using h) (by simpa using h)
  · have h := of_decide_eq_true h; exact go (lowW false) (uppW false) (by simpa using h) (by simpa using h)
  · have h := of_decide_eq_true h; exact go (lowW true) (uppW true) (by simpa using h) (by simpa using h)
  · have h := of_decide_eq_true h; exact go (morW false) (lesW false) (by simpa using h) (by simpa using h)
  · have h := of_decide_eq_true h; exact go (morW true) (lesW true) (by simpa using h) (by simpa using h)
  · have h := of_decide_eq_true h; exact go (lesW false) (morW false) (by simpa using h) (by simpa using h)
  · have h := of_decide_eq_true h; exact go (lesW true) (morW true) (by simpa using h) (by simpa using h)
  · have h := of_decide_eq_true h; exact go someW someW h (by rw [uand_comm]; exact h)
  · have h := of_decide_eq_true h; exact go noneW noneW h (by rw [uand_comm]; exact h)
  · cases h
theorem hold_sound {op x y : Nat} {a b : Sc} (hx : x < 18446744073709551616) (hy : y < 18446744073709551616) (ha : Fx a) (hb : Fx b) (h1 : Le (wordS x) a) (h2 : Le (wordS y) b) (h : testB op x y = true) : ∃ c d, holdT op a b = some (c, d) ∧ Fx c ∧ Fx d ∧ Le (wordS x) c ∧ Le (wordS y) d ∧ Le c a ∧ Le d b := by
  obtain ⟨c, d, e, l1, l2⟩ := hold_word op x y hx hy h
  obtain ⟨c', d', e', m1, m2⟩ := hold_mono (wordFx x hx) (wordFx y hy) ha hb h1 h2 e
  obtain ⟨p, q, r, s⟩ := hold_below ha hb e'
  exact ⟨c', d', e', p, r, l1.trans m1, l2.trans m2, q, s⟩
theorem opp_cases {op : Nat} (h : opp op ≠ 0) : op = 16 ∨ op = 80 ∨ op = 32 ∨ op = 176 ∨ op = 48 ∨ op = 160 ∨ op = 96 ∨ op = 208 ∨ op = 112 ∨ op = 192 ∨ op = 64 := by
  unfold opp at h
  split at h <;> first | omega | exact absurd rfl h
theorem test_opp (op x y : Nat) (h : opp op ≠ 0) : testB (opp op) x y = !testB op x y := by
  rcases opp_cases h with rfl | rfl | rfl | rfl | rfl | rfl | rfl | rfl | rfl | rfl | rfl <;> simp only [opp, testB] <;> rw [Bool.eq_iff_iff] <;> simp
/-- The other way round. -/
def abt (op : Nat) : Nat := match op with | 32 => 160 | 160 => 32 | 48 => 176 | 176 => 48 | 96 => 192 | 192 => 96 | 112 => 208 | 208 => 112 | n => n
theorem rule_abt (op : Nat) (side : Bool) (a b : Sc) : ruleT (abt op) side a b = ruleT op (!side) a b := by
  by_cases h1 : op = 32
  · subst h1; cases side <;> rfl
  by_cases h2 : op = 160
  · subst h2; cases side <;> rfl
  by_cases h3 : op = 48
  · subst h3; cases side <;> rfl
  by_cases h4 : op = 176
  · subst h4; cases side <;> rfl
  by_cases h5 : op = 96
  · subst h5; cases side <;> rfl
  by_cases h6 : op = 192
  · subst h6; cases side <;> rfl
  by_cases h7 : op = 112
  · subst h7; cases side <;> rfl
  by_cases h8 : op = 208
  · subst h8; cases side <;> rfl
  have e : abt op = op := by
    unfold abt
    split <;> first | omega | rfl
  rw [e]
  unfold ruleT
  split <;> first | omega | rfl
theorem hold_abt (op : Nat) (a b : Sc) : holdT (abt op) b a = (holdT op a b).map fun p => (p.2, p.1) := by
  unfold holdT
  rw [rule_abt, rule_abt]
  simp only [Bool.not_false, Bool.not_true]
  cases ruleT op true b a <;> cases ruleT op false a b <;> rfl
theorem opp_abt (op : Nat) : opp (abt op) = abt (opp op) := by
  by_cases h : opp op = 0
  · have h2 : opp (abt op) = 0 := by
      unfold abt
      split <;> first | (exfalso; revert h; decide) | exact h
    rw [h, h2]; rfl
  · rcases opp_cases h with rfl | rfl | rfl | rfl | rfl | rfl | rfl | rfl | rfl | rfl | rfl <;> rfl
theorem opp_opp (op : Nat) (h : opp op ≠ 0) (h1 : op ≠ 64) : opp (opp op) = op := by
  rcases opp_cases h with rfl | rfl | rfl | rfl | rfl | rfl | rfl | rfl | rfl | rfl | rfl <;> first | rfl | exact absurd rfl h1
end Go.Proofs.Ytmbmmcippglfoaa.M
