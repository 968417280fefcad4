/-
  scalar.Meet; refine.bounded, known.
-/
import Derived.Test.YtmbmmcippglfoaaScB
import Derived.Test.YtmbmmcippglfoaaSpD
namespace Go.Proofs.Ytmbmmcippglfoaa.M
open Go.RowKit Go.Shelf
set_option linter.unusedVariables false
set_option linter.unusedSectionVars false
set_option linter.unusedSimpArgs false

theorem scOf_v (v m lo hi gv gm gl gh : Nat) (sl sh gi gj : Int) (gb : Bool) (hr : Rg ⟨⟨v, m⟩, ⟨lo, hi, sl, sh⟩⟩) (hg : (ofT ⟨⟨v, m⟩, ⟨lo, hi, sl, sh⟩⟩).getD zeroSc = ⟨⟨gv, gm⟩, ⟨gl, gh, gi, gj⟩⟩) (hb : (ofT ⟨⟨v, m⟩, ⟨lo, hi, sl, sh⟩⟩).isSome = gb) (w : World) : Calls Try.prog 30 #[.agg #[.int .u64 v, .int .u64 m], .agg #[.int .u64 lo, .int .u64 hi, .int .i64 sl, .int .i64 sh]] w fun e w' => e = .returned (.tuple #[.agg #[.int .u64 gv, .int .u64 gm, .int .u64 gl, .int .u64 gh, .int .i64 gi, .int .i64 gj], .bool gb]) ∧ But [] w w' := by
  have h := scOf ⟨⟨v, m⟩, ⟨lo, hi, sl, sh⟩⟩ w hr
  rw [hg, hb] at h
  exact h
/-- What a rule tells. -/
def RulePost (r : Option Sc) (w : World) (e : Ending) (w' : World) : Prop := ∃ c : Sc, e = .returned (.tuple #[c.val, .bool r.isSome]) ∧ (∀ d, r = some d → c = d) ∧ But [] w w'
theorem RulePost.mk {r : Option Sc} {w w' : World} {e : Ending} (c : Sc) (h1 : e = .returned (.tuple #[c.val, .bool r.isSome])) (h2 : ∀ d, r = some d → c = d) (h3 : But [] w w') : RulePost r w e w' := ⟨c, h1, h2, h3⟩
theorem rulePost_of {r : Option Sc} {w w' : World} (hb : But [] w w') : RulePost r w (.returned (.tuple #[(r.getD zeroSc).val, .bool r.isSome])) w' := ⟨_, rfl, fun d h => by rw [h]; rfl, hb⟩
set_option maxRecDepth 100000 in
set_option maxHeartbeats 4000000 in
theorem bounded_c (v m lo hi : Nat) (sl sh : Int) (ylo yhi : Nat) (ysl ysh : Int) (w : World) (hr : Rg ⟨⟨v, m⟩, ⟨ylo, yhi, ysl, ysh⟩⟩) : Calls Try.prog 88 #[.agg #[.int .u64 v, .int .u64 m, .int .u64 lo, .int .u64 hi, .int .i64 sl, .int .i64 sh], .agg #[.int .u64 ylo, .int .u64 yhi, .int .i64 ysl, .int .i64 ysh]] w fun e w' => e = .returned (.tuple #[((ofT ⟨⟨v, m⟩, ⟨ylo, yhi, ysl, ysh⟩⟩).getD zeroSc).val, .bool (ofT ⟨⟨v, m⟩, ⟨ylo, yhi, ysl, ysh⟩⟩).isSome]) ∧ But [] w w' := by
  obtain ⟨⟨⟨gv, gm⟩, ⟨gl, gh, gi, gj⟩⟩, hg⟩ : ∃ g : Sc, (ofT ⟨⟨v, m⟩, ⟨ylo, yhi, ysl, ysh⟩⟩).getD zeroSc = g := ⟨_, rfl⟩
  obtain ⟨gb, hgb⟩ : ∃ b, (ofT ⟨⟨v, m⟩, ⟨ylo, yhi, ysl, ysh⟩⟩).isSome = b := ⟨_, rfl⟩
  have G0 := Lib.hid (fun w => scOf_v v m ylo yhi gv gm gl gh ysl ysh gi gj gb hr hg hgb w)
  have HG := Lib.hid hg
  have HGB := Lib.hid hgb
  clear hr hg hgb
  go_enter Try.func88, Try.ntmps88
  go_wp2_with fail
  refine (G0.out _).mono ?_
  rintro e w8 ⟨rfl, hb8⟩
  have hR : w8.heap[w.heap.size + 1 + 1]? = some (.cells #[.int .u64 0, .int .u64 0, .int .u64 0, .int .u64 0, .int .i64 0, .int .i64 0] 28) := hb8.heap (by repeat (first | (with_reducible refine al_eq _ _ _ ?_; (simp only [size_alloc]; done)) | with_reducible refine al_keep ?_ _ | with_reducible refine dr_keep ?_)) (by simp)
  obtain ⟨cR0, cR1, cR2, cR3, cR4, cR5⟩ := c6_of hR
  obtain ⟨fR0, fR1, fR2, fR3, fR4, fR5⟩ := f6_of hR
  have zR := lt_of hR
  have HB : Hid (But [] w w8) := Lib.hid ((by repeat (first | with_reducible exact But.refl _ _ | with_reducible refine But.drew ?_ | with_reducible refine But.alloc ?_ _) : But [] w _).trans hb8 (by simp))
  have HR := Lib.hid hR
  clear hR hb8
  go_wp2_with fail
  exact bodyPost_ret (v := .tuple #[.agg #[.int .u64 gv, .int .u64 gm, .int .u64 gl, .int .u64 gh, .int .i64 gi, .int .i64 gj], .bool gb]) (by simp [results, Try.results88, go_sem, cR0, cR1, cR2, cR3, cR4, cR5]) rfl ⟨by rw [HG.out, HGB.out]; rfl, by
    repeat (first | with_reducible exact HB.out | with_reducible refine But.alloc ?_ _ | (with_reducible refine But.setCell ?_ (.inr ?_) _; rotate_left; (simp only []; omega)))⟩
theorem xor_not (p : Nat) (h : p < 18446744073709551616) : bits .xor .u64 IntKind.u64.max (p : Int) = ((unot p : Nat) : Int) := by
  have e : IntKind.u64.max = ((18446744073709551615 : Nat) : Int) := rfl
  rw [e, bits_xor]
  congr 1
  refine eq_of_bits (uxor_lt _ _) (unot_lt _) (fun i hi => ?_)
  rw [bit_uxor, bit_unot p i h]
  have hf : (18446744073709551615 : Nat).testBit i = true := by
    rw [show (18446744073709551615 : Nat) = 2 ^ 64 - 1 from rfl, Nat.testBit_two_pow_sub_one]
    simpa using hi
  simp [hi, hf]
set_option maxRecDepth 100000 in
set_option maxHeartbeats 4000000 in
theorem known_c (v m lo hi : Nat) (sl sh : Int) (p q : Nat) (w : World) (hp : p < 18446744073709551616) (hr : Rg ⟨⟨v, m⟩, ⟨lo, hi, sl, sh⟩⟩) : Calls Try.prog 49 #[.agg #[.int .u64 v, .int .u64 m, .int .u64 lo, .int .u64 hi, .int .i64 sl, .int .i64 sh], .int .u64 p, .int .u64 q] w (RulePost (knownT ⟨⟨v, m⟩, ⟨lo, hi, sl, sh⟩⟩ p q) w) := by
  have hX := xor_not p hp
  have hsg : IntKind.u64.signed = false := rfl
  have HR0 := Lib.hid (fun h => knownRg hr p q h)
  obtain ⟨n, hn⟩ : ∃ n, n = unot p := ⟨_, rfl⟩
  rw [← hn] at hX
  have hM := fun w => tnMeet v m q n w
  obtain ⟨⟨tv, tm⟩, ht⟩ : ∃ r : Tn, r = meetT ⟨v, m⟩ ⟨q, n⟩ := ⟨_, rfl⟩
  rw [← ht] at hM
  simp only [Tn.val] at hM
  have G0 := Lib.hid hM
  have HE : Hid (knownT ⟨⟨v, m⟩, ⟨lo, hi, sl, sh⟩⟩ p q = if meetB ⟨v, m⟩ ⟨q, n⟩ then ofT ⟨⟨tv, tm⟩, ⟨lo, hi, sl, sh⟩⟩ else none) := Lib.hid (by unfold knownT; rw [← hn, ← ht])
  have HR1 : Hid (meetB ⟨v, m⟩ ⟨q, n⟩ = true → Rg ⟨⟨tv, tm⟩, ⟨lo, hi, sl, sh⟩⟩) := Lib.hid (fun h => by have h2 := HR0.out (by rw [← hn]; exact h); rw [← hn, ← ht] at h2; exact h2)
  clear hM hn ht hp hr HR0
  cases e0 : meetB ⟨v, m⟩ ⟨q, n⟩ with
  | false =>
    rw [e0] at G0
    rw [e0] at HE
    clear e0
    go_enter Try.func49, Try.ntmps49
    go_wp2_with fail
    refine (G0.out _).mono ?_
    rintro e w8 ⟨rfl, hb8⟩
    have hA : w8.heap[w.heap.size]? = some (.cells #[.int .u64 v, .int .u64 m, .int .u64 lo, .int .u64 hi, .int .i64 sl, .int .i64 sh] 28) := hb8.heap (by repeat (first | (with_reducible refine al_eq _ _ _ ?_; (simp only [size_alloc]; done)) | with_reducible refine al_keep ?_ _ | with_reducible refine dr_keep ?_)) (by simp)
    have hR : w8.heap[w.heap.size + 1]? = some (.cells #[.int .u64 0, .int .u64 0, .int .u64 0, .int .u64 0, .int .i64 0, .int .i64 0] 28) := hb8.heap (by repeat (first | (with_reducible refine al_eq _ _ _ ?_; (simp only [size_alloc]; done)) | with_reducible refine al_keep ?_ _ | with_reducible refine dr_keep ?_)) (by simp)
    obtain ⟨cA0, cA1, cA2, cA3, cA4, cA5⟩ := c6_of hA
    have zA := lt_of hA
    obtain ⟨cR0, cR1, cR2, cR3, cR4, cR5⟩ := c6_of hR
    obtain ⟨fR0, fR1, fR2, fR3, fR4, fR5⟩ := f6_of hR
    have zR := lt_of hR
    have HB : Hid (But [] w w8) := Lib.hid ((by repeat (first | with_reducible exact But.refl _ _ | with_reducible refine But.drew ?_ | with_reducible refine But.alloc ?_ _) : But [] w _).trans hb8 (by simp))
    have HA := Lib.hid hA
    have HR := Lib.hid hR
    clear hA hR hb8
    clear hX hsg
    go_upto_region 2 with (fail)
    generalize hw : World.alloc w8 _ = w9
    have hA : w9.heap[w.heap.size]? = some (.cells #[.int .u64 v, .int .u64 m, .int .u64 lo, .int .u64 hi, .int .i64 sl, .int .i64 sh] 28) := by rw [← hw]; exact al_keep HA.out _
    have hR : w9.heap[w.heap.size + 1]? = some (.cells #[.int .u64 0, .int .u64 0, .int .u64 0, .int .u64 0, .int .i64 0, .int .i64 0] 28) := by rw [← hw]; exact al_keep HR.out _
    have hT : w9.heap[w8.heap.size]? = some (.cells #[.int .u64 tv, .int .u64 tm] 24) := by rw [← hw]; exact al_at _ _
    have HB : Hid (But [] w w9) := Lib.hid (by rw [← hw]; exact HB.out.alloc _)
    clear hw
    clear zA zR cA0 cA1 cA2 cA3 cA4 cA5 cR0 cR1 cR2 cR3 cR4 cR5 fR0 fR1 fR2 fR3 fR4 fR5
    obtain ⟨cA0, cA1, cA2, cA3, cA4, cA5⟩ := c6_of hA
    have zA := lt_of hA
    obtain ⟨cR0, cR1, cR2, cR3, cR4, cR5⟩ := c6_of hR
    obtain ⟨fR0, fR1, fR2, fR3, fR4, fR5⟩ := f6_of hR
    have zR := lt_of hR
    obtain ⟨cT0, cT1⟩ := c2_of hT
    have zT := lt_of hT
    have HA := Lib.hid hA
    have HR := Lib.hid hR
    have HT := Lib.hid hT
    clear hA hR hT
    go_wp2_with fail
    exact bodyPost_ret (v := .tuple #[.agg #[.int .u64 0, .int .u64 0, .int .u64 0, .int .u64 0, .int .i64 0, .int .i64 0], .bool false]) (by simp [results, Try.results49, go_sem, cR0, cR1, cR2, cR3, cR4, cR5]) rfl (RulePost.mk (zeroSc) (by rw [HE.out, if_neg (by decide)]; rfl) (fun d hd => by rw [HE.out, if_neg (by decide)] at hd; cases hd) (by
    repeat (first | with_reducible exact HB.out | with_reducible refine But.alloc ?_ _ | (with_reducible refine But.setCell ?_ (.inr ?_) _; rotate_left; (simp only []; omega)))))
  | true =>
    rw [e0] at G0
    rw [e0] at HE
    have hr1 := HR1.out e0
    clear e0
    obtain ⟨⟨⟨gv, gm⟩, ⟨gl, gh, gi, gj⟩⟩, hg⟩ : ∃ g : Sc, (ofT ⟨⟨tv, tm⟩, ⟨lo, hi, sl, sh⟩⟩).getD zeroSc = g := ⟨_, rfl⟩
    obtain ⟨gb, hgb⟩ : ∃ b, (ofT ⟨⟨tv, tm⟩, ⟨lo, hi, sl, sh⟩⟩).isSome = b := ⟨_, rfl⟩
    have G1 := Lib.hid (fun w => scOf_v tv tm lo hi gv gm gl gh sl sh gi gj gb hr1 hg hgb w)
    have HG := Lib.hid hg
    have HGB := Lib.hid hgb
    clear hr1 hg hgb HR1
    go_enter Try.func49, Try.ntmps49
    go_wp2_with fail
    refine (G0.out _).mono ?_
    rintro e w8 ⟨rfl, hb8⟩
    have hA : w8.heap[w.heap.size]? = some (.cells #[.int .u64 v, .int .u64 m, .int .u64 lo, .int .u64 hi, .int .i64 sl, .int .i64 sh] 28) := hb8.heap (by repeat (first | (with_reducible refine al_eq _ _ _ ?_; (simp only [size_alloc]; done)) | with_reducible refine al_keep ?_ _ | with_reducible refine dr_keep ?_)) (by simp)
    have hR : w8.heap[w.heap.size + 1]? = some (.cells #[.int .u64 0, .int .u64 0, .int .u64 0, .int .u64 0, .int .i64 0, .int .i64 0] 28) := hb8.heap (by repeat (first | (with_reducible refine al_eq _ _ _ ?_; (simp only [size_alloc]; done)) | with_reducible refine al_keep ?_ _ | with_reducible refine dr_keep ?_)) (by simp)
    obtain ⟨cA0, cA1, cA2, cA3, cA4, cA5⟩ := c6_of hA
    have zA := lt_of hA
    obtain ⟨cR0, cR1, cR2, cR3, cR4, cR5⟩ := c6_of hR
    obtain ⟨fR0, fR1, fR2, fR3, fR4, fR5⟩ := f6_of hR
    have zR := lt_of hR
    have HB : Hid (But [] w w8) := Lib.hid ((by repeat (first | with_reducible exact But.refl _ _ | with_reducible refine But.drew ?_ | with_reducible refine But.alloc ?_ _) : But [] w _).trans hb8 (by simp))
    have HA := Lib.hid hA
    have HR := Lib.hid hR
    clear hA hR hb8
    clear hX hsg
    go_upto_region 2 with (fail)
    generalize hw : World.alloc w8 _ = w9
    have hA : w9.heap[w.heap.size]? = some (.cells #[.int .u64 v, .int .u64 m, .int .u64 lo, .int .u64 hi, .int .i64 sl, .int .i64 sh] 28) := by rw [← hw]; exact al_keep HA.out _
    have hR : w9.heap[w.heap.size + 1]? = some (.cells #[.int .u64 0, .int .u64 0, .int .u64 0, .int .u64 0, .int .i64 0, .int .i64 0] 28) := by rw [← hw]; exact al_keep HR.out _
    have hT : w9.heap[w8.heap.size]? = some (.cells #[.int .u64 tv, .int .u64 tm] 24) := by rw [← hw]; exact al_at _ _
    have HB : Hid (But [] w w9) := Lib.hid (by rw [← hw]; exact HB.out.alloc _)
    clear hw
    clear zA zR cA0 cA1 cA2 cA3 cA4 cA5 cR0 cR1 cR2 cR3 cR4 cR5 fR0 fR1 fR2 fR3 fR4 fR5
    obtain ⟨cA0, cA1, cA2, cA3, cA4, cA5⟩ := c6_of hA
    have zA := lt_of hA
    obtain ⟨cR0, cR1, cR2, cR3, cR4, cR5⟩ := c6_of hR
    obtain ⟨fR0, fR1, fR2, fR3, fR4, fR5⟩ := f6_of hR
    have zR := lt_of hR
    obtain ⟨cT0, cT1⟩ := c2_of hT
    have zT := lt_of hT
    have HA := Lib.hid hA
    have HR := Lib.hid hR
    have HT := Lib.hid hT
    clear hA hR hT
    go_wp2_with fail
    refine (G1.out _).mono ?_
    rintro e w10 ⟨rfl, hb10⟩
    have hR : w10.heap[w.heap.size + 1]? = some (.cells #[.int .u64 0, .int .u64 0, .int .u64 0, .int .u64 0, .int .i64 0, .int .i64 0] 28) := hb10.heap (HR.out) (by simp)
    clear zA zR zT
    clear cA0 cA1 cA2 cA3 cA4 cA5 cR0 cR1 cR2 cR3 cR4 cR5 cT0 cT1
    clear fR0 fR1 fR2 fR3 fR4 fR5
    obtain ⟨cR0, cR1, cR2, cR3, cR4, cR5⟩ := c6_of hR
    obtain ⟨fR0, fR1, fR2, fR3, fR4, fR5⟩ := f6_of hR
    have zR := lt_of hR
    have HB : Hid (But [] w w10) := Lib.hid ((HB.out).trans hb10 (by simp))
    have HR := Lib.hid hR
    clear hR hb10
    go_wp2_with fail
    exact bodyPost_ret (v := .tuple #[.agg #[.int .u64 gv, .int .u64 gm, .int .u64 gl, .int .u64 gh, .int .i64 gi, .int .i64 gj], .bool gb]) (by simp [results, Try.results49, go_sem, cR0, cR1, cR2, cR3, cR4, cR5]) rfl (RulePost.mk (⟨⟨gv, gm⟩, ⟨gl, gh, gi, gj⟩⟩) (by rw [HE.out, if_pos trivial, HGB.out]; rfl) (fun d hd => by rw [HE.out, if_pos trivial] at hd; rw [← HG.out, hd]; rfl) (by
    repeat (first | with_reducible exact HB.out | with_reducible refine But.alloc ?_ _ | (with_reducible refine But.setCell ?_ (.inr ?_) _; rotate_left; (simp only []; omega)))))
end Go.Proofs.Ytmbmmcippglfoaa.M
