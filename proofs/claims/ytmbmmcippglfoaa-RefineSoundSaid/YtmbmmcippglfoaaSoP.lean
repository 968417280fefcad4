/-
  Plain: what RefineSound says; the conditions of words.
-/
import Derived.Test.YtmbmmcippglfoaaBrA
import Derived.Test.YtmbmmcippglfoaaTstSp
namespace Go.Proofs.Ytmbmmcippglfoaa.M
open Go.RowKit
set_option linter.unusedVariables false
set_option linter.unusedSectionVars false
set_option linter.unusedSimpArgs false
theorem sound_branch {op x y : Nat} {wide t : Bool} {a b : Sc} (h : opp op ≠ 0) (hx : x < 18446744073709551616) (hy : y < 18446744073709551616) (ra : Rg a) (rb : Rg b) (h1 : hasT a x = true) (h2 : hasT b y = true)
    (ht : (wide = true ∨ (x < 2147483648 ∧ y < 2147483648)) → t = testB op x y) :
    ∃ c d, branchT op wide a b t = some (c, d) ∧ Rg c ∧ Rg d ∧ hasT c x = true ∧ hasT d y = true ∧ rightB c = true ∧ rightB d = true ∧ leqT c a = true ∧ leqT d b = true := by
  obtain ⟨fa, la⟩ := (has_iff ra x hx).1 h1
  obtain ⟨fb, lb⟩ := (has_iff rb y hy).1 h2
  have hxa : x ≤ a.s.hi := la.s.hi
  have hyb : y ≤ b.s.hi := lb.s.hi
  have e1 : (opp op != 0) = true := by simpa using h
  have pack : ∀ {c d : Sc}, Fx c → Fx d → Le (wordS x) c → Le (wordS y) d → Le c a → Le d b → Rg c ∧ Rg d ∧ hasT c x = true ∧ hasT d y = true ∧ rightB c = true ∧ rightB d = true ∧ leqT c a = true ∧ leqT d b = true := fun {c d} fc fd l1 l2 l3 l4 =>
    ⟨fc.rg, fd.rg, (has_iff fc.rg x hx).2 ⟨fc, l1⟩, (has_iff fd.rg y hy).2 ⟨fd, l2⟩, fc.right, fd.right, (leq_iff fc.rg ra).2 ⟨fc, fa, l3⟩, (leq_iff fd.rg rb).2 ⟨fd, fb, l4⟩⟩
  unfold branchT
  rw [fa.right, fb.right, e1]
  simp only [Bool.and_self, if_true]
  by_cases c1 : (!wide && decide (2147483648 ≤ max a.s.hi b.s.hi)) = true
  · rw [if_pos c1]
    exact ⟨a, b, rfl, pack fa fb la lb (Le.refl _) (Le.refl _)⟩
  · rw [if_neg c1]
    have ht' : t = testB op x y := ht (by
      cases wide with
      | true => exact .inl rfl
      | false =>
        right
        simp only [Bool.not_false, Bool.true_and, decide_eq_true_eq] at c1
        omega)
    have hq : testB (if t then op else opp op) x y = true := by
      cases hb : t with
      | true => rw [if_pos rfl, ← ht', hb]
      | false => rw [if_neg (by decide), test_opp op x y h, ← ht', hb]; rfl
    obtain ⟨c, d, e, fc, fd, l1, l2, l3, l4⟩ := hold_sound hx hy fa fb la lb hq
    exact ⟨c, d, e, pack fc fd l1 l2 l3 l4⟩
def testW (op : Int) (wide : Bool) (a b : Int) : Option Bool :=
  if wide = true then Sp.tst (Sp.cmpI a b) (Sp.cmpI (wrap64 a) (wrap64 b)) (bits .and .u64 a b) op
  else Sp.tst (Sp.cmpI (a % 4294967296) (b % 4294967296)) (Sp.cmpI (wrap32 (a % 4294967296)) (wrap32 (b % 4294967296))) (bits .and .u32 (a % 4294967296) (b % 4294967296)) op
theorem bits_and32 (a b : Nat) (ha : a < 4294967296) (hb : b < 4294967296) : bits .and .u32 (a : Int) (b : Int) = ((uand a b : Nat) : Int) := by
  have e : bits .and .u32 (a : Int) (b : Int) = ((a &&& b : Nat) : Int) := by
    show IntKind.u32.wrap ((BitVec.ofInt 32 (a : Int) &&& BitVec.ofInt 32 (b : Int)).toNat : Int) = _
    rw [BitVec.ofInt_natCast, BitVec.ofInt_natCast, ← BitVec.ofNat_and, BitVec.toNat_ofNat, Nat.mod_eq_of_lt (show a &&& b < 2 ^ 32 from Nat.lt_of_le_of_lt Nat.and_le_left ha)]
    have h3 : a &&& b < 4294967296 := Nat.lt_of_le_of_lt Nat.and_le_left ha
    have h4 : ∀ n : Nat, n < 4294967296 → IntKind.u32.wrap (n : Int) = (n : Int) := fun n hn => by
      simp only [IntKind.wrap, IntKind.signed, IntKind.bits]
      simp
      omega
    exact h4 _ h3
  rw [e]
  unfold uand
  rw [Nat.mod_eq_of_lt (Nat.lt_of_le_of_lt Nat.and_le_left (show a < 18446744073709551616 by omega))]
theorem tst_is {op : Nat} (h : opp op ≠ 0) (c s an : Int) : ∃ t, Sp.tst c s an (op : Int) = some t := by
  rcases opp_cases h with rfl | rfl | rfl | rfl | rfl | rfl | rfl | rfl | rfl | rfl | rfl <;> exact ⟨_, rfl⟩
theorem testW_is {op : Nat} (h : opp op ≠ 0) (wide : Bool) (x y : Int) : ∃ t, testW op wide x y = some t := by
  unfold testW
  split
  · exact tst_is h _ _ _
  · exact tst_is h _ _ _
theorem tst_test {op x y : Nat} (h : opp op ≠ 0) {s t : Int} (hs : s = toS x) (ht : t = toS y) : Sp.tst (Sp.cmpI x y) (Sp.cmpI s t) ((uand x y : Nat) : Int) (op : Int) = some (testB op x y) := by
  subst hs ht
  have c0 : (Sp.cmpI (x : Int) (y : Int) == 0) = decide (x = y) := by
    unfold Sp.cmpI
    rw [Bool.eq_iff_iff, beq_iff_eq, decide_eq_true_eq]
    split
    · omega
    · split <;> omega
  have ga : ∀ u v : Int, (decide (Sp.cmpI u v > 0) = decide (v < u)) ∧ (decide (Sp.cmpI u v ≥ 0) = decide (v ≤ u)) ∧ (decide (Sp.cmpI u v < 0) = decide (u < v)) ∧ (decide (Sp.cmpI u v ≤ 0) = decide (u ≤ v)) := fun u v => by
    unfold Sp.cmpI
    simp only [decide_eq_decide]
    split
    · omega
    · split <;> omega
  have gx := ga (x : Int) (y : Int)
  have gs := ga (toS x) (toS y)
  have n1 : decide ((y : Int) < (x : Int)) = decide (y < x) := by rw [decide_eq_decide]; omega
  have n2 : decide ((y : Int) ≤ (x : Int)) = decide (y ≤ x) := by rw [decide_eq_decide]; omega
  have n3 : decide ((x : Int) < (y : Int)) = decide (x < y) := by rw [decide_eq_decide]; omega
  have n4 : decide ((x : Int) ≤ (y : Int)) = decide (x ≤ y) := by rw [decide_eq_decide]; omega
  have hz : (((uand x y : Nat) : Int) != 0) = decide (uand x y ≠ 0) := by
    rw [Bool.eq_iff_iff, bne_iff_ne, decide_eq_true_eq]; omega
  have hn : (Sp.cmpI (x : Int) (y : Int) != 0) = decide (x ≠ y) := by
    rw [bne, c0, decide_not]
  rcases opp_cases h with rfl | rfl | rfl | rfl | rfl | rfl | rfl | rfl | rfl | rfl | rfl
  · show some (Sp.cmpI (x : Int) (y : Int) == 0) = some (decide (x = y)); rw [c0]
  · show some (Sp.cmpI (x : Int) (y : Int) != 0) = some (decide (x ≠ y)); rw [hn]
  · show some (decide (Sp.cmpI (x : Int) (y : Int) > 0)) = some (decide (y < x)); rw [gx.1, n1]
  · show some (decide (Sp.cmpI (x : Int) (y : Int) ≤ 0)) = some (decide (x ≤ y)); rw [gx.2.2.2, n4]
  · show some (decide (Sp.cmpI (x : Int) (y : Int) ≥ 0)) = some (decide (y ≤ x)); rw [gx.2.1, n2]
  · show some (decide (Sp.cmpI (x : Int) (y : Int) < 0)) = some (decide (x < y)); rw [gx.2.2.1, n3]
  · show some (decide (Sp.cmpI (toS x) (toS y) > 0)) = some (decide (toS y < toS x)); rw [gs.1]
  · show some (decide (Sp.cmpI (toS x) (toS y) ≤ 0)) = some (decide (toS x ≤ toS y)); rw [gs.2.2.2]
  · show some (decide (Sp.cmpI (toS x) (toS y) ≥ 0)) = some (decide (toS y ≤ toS x)); rw [gs.2.1]
  · show some (decide (Sp.cmpI (toS x) (toS y) < 0)) = some (decide (toS x < toS y)); rw [gs.2.2.1]
  · show some (((uand x y : Nat) : Int) != 0) = some (decide (uand x y ≠ 0)); rw [hz]
theorem testW_test {op x y : Nat} {wide : Bool} (h : opp op ≠ 0) (hx : x < 18446744073709551616) (hy : y < 18446744073709551616) (hw : wide = true ∨ (x < 2147483648 ∧ y < 2147483648)) : testW op wide x y = some (testB op x y) := by
  have w64 : ∀ n : Nat, wrap64 (n : Int) = toS n := fun n => by unfold toS; rw [IntKind.wrap_i64, wrap64]
  unfold testW
  cases wide with
  | true =>
    rw [if_pos rfl, bits_and]
    exact tst_test h (w64 x) (w64 y)
  | false =>
    have hw := hw.resolve_left (by decide)
    rw [if_neg (by decide)]
    have e1 : (x : Int) % 4294967296 = (x : Int) := by omega
    have e2 : (y : Int) % 4294967296 = (y : Int) := by omega
    rw [e1, e2, bits_and32 x y (by omega) (by omega)]
    refine tst_test h ?_ ?_
    · rw [toS_eq x hx, if_pos (by omega)]; unfold wrap32; omega
    · rw [toS_eq y hy, if_pos (by omega)]; unfold wrap32; omega
/-- All comparisons, in the law's order. -/
def cmpA (i : Nat) : Nat := match i with | 0 => 16 | 1 => 32 | 2 => 48 | 3 => 64 | 4 => 80 | 5 => 96 | 6 => 112 | 7 => 160 | 8 => 176 | 9 => 192 | _ => 208
theorem cmpA_ok {i : Nat} (h : i < 11) : opp (cmpA i) ≠ 0 ∧ cmpA i < 256 := by
  match i, h with
  | 0, _ => decide
  | 1, _ => decide
  | 2, _ => decide
  | 3, _ => decide
  | 4, _ => decide
  | 5, _ => decide
  | 6, _ => decide
  | 7, _ => decide
  | 8, _ => decide
  | 9, _ => decide
  | 10, _ => decide
end Go.Proofs.Ytmbmmcippglfoaa.M
