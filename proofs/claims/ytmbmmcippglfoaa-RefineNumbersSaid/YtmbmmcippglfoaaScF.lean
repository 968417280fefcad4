/-
  refine.other, rules$1; scalar.Meet.
-/
import Derived.Test.YtmbmmcippglfoaaScE
namespace Go.Proofs.Ytmbmmcippglfoaa.M
open Go.RowKit Go.Shelf
set_option linter.unusedVariables false
set_option linter.unusedSectionVars false
set_option linter.unusedSimpArgs false

theorem sc_keep {W : World} {k : Nat} {o : Obj} {p : Addr} {v : Value} (h : W.heap[k]? = some o) (hne : p.block ≠ k) : (W.setCell p v).heap[k]? = some o := by
  show (W.heap.modify p.block _)[k]? = _
  rw [Array.getElem?_modify, if_neg hne]
  exact h
def endU1 (lo n : Nat) : Nat := if lo = n then toU ((lo : Int) + 1) else lo
def endU2 (hi n : Nat) : Nat := if hi = n then toU ((hi : Int) - 1) else hi
def endI1 (lo n : Int) : Int := if lo = n then IntKind.i64.wrap (lo + 1) else lo
def endI2 (hi n : Int) : Int := if hi = n then IntKind.i64.wrap (hi - 1) else hi
theorem ends_eq (s : Sp) (n : Nat) : endsA s n = ⟨endU1 s.lo n, endU2 s.hi n, endI1 s.sl (toS n), endI2 s.sh (toS n)⟩ := rfl
set_option maxRecDepth 100000 in
set_option maxHeartbeats 4000000 in
theorem endU_c (lo hi n : Nat) (w : World) : Calls Try.prog 86 #[.int .u64 lo, .int .u64 hi, .int .u64 n] w fun e w' => e = .returned (.tuple #[.int .u64 (endU1 lo n), .int .u64 (endU2 hi n)]) ∧ w = w' := by
  obtain ⟨p, hp⟩ : ∃ p, p = endU1 lo n := ⟨_, rfl⟩
  obtain ⟨r, hr⟩ : ∃ r, r = endU2 hi n := ⟨_, rfl⟩
  rw [← hp, ← hr]
  by_cases h1 : lo = n
  · by_cases h2 : hi = n
    · have e1 : (((lo : Int)) == (n : Int)) = true := by rw [beq_iff_eq]; first | exact h1 | exact_mod_cast h1
      have w1 : IntKind.u64.wrap ((lo : Int) + 1) = (p : Int) := by rw [hp]; unfold endU1; rw [if_pos h1]; exact toU_wrap _
      clear hp
      have e2 : (((hi : Int)) == (n : Int)) = true := by rw [beq_iff_eq]; first | exact h2 | exact_mod_cast h2
      have w2 : IntKind.u64.wrap ((hi : Int) - 1) = (r : Int) := by rw [hr]; unfold endU2; rw [if_pos h2]; exact toU_wrap _
      clear hr
      clear h1 h2
      go_enter Try.func86, Try.ntmps86
      go_wp2
      go_ret2
      exact ⟨rfl, rfl⟩
    · have e1 : (((lo : Int)) == (n : Int)) = true := by rw [beq_iff_eq]; first | exact h1 | exact_mod_cast h1
      have w1 : IntKind.u64.wrap ((lo : Int) + 1) = (p : Int) := by rw [hp]; unfold endU1; rw [if_pos h1]; exact toU_wrap _
      clear hp
      have e2 : (((hi : Int)) == (n : Int)) = false := by rw [beq_eq_false_iff_ne]; first | exact h2 | exact_mod_cast h2
      have w2 : r = hi := by rw [hr]; unfold endU2; rw [if_neg h2]
      clear hr
      subst w2
      clear h1 h2
      go_enter Try.func86, Try.ntmps86
      go_wp2
      go_ret2
      exact ⟨rfl, rfl⟩
  · by_cases h2 : hi = n
    · have e1 : (((lo : Int)) == (n : Int)) = false := by rw [beq_eq_false_iff_ne]; first | exact h1 | exact_mod_cast h1
      have w1 : p = lo := by rw [hp]; unfold endU1; rw [if_neg h1]
      clear hp
      subst w1
      have e2 : (((hi : Int)) == (n : Int)) = true := by rw [beq_iff_eq]; first | exact h2 | exact_mod_cast h2
      have w2 : IntKind.u64.wrap ((hi : Int) - 1) = (r : Int) := by rw [hr]; unfold endU2; rw [if_pos h2]; exact toU_wrap _
      clear hr
      clear h1 h2
      go_enter Try.func86, Try.ntmps86
      go_wp2
      go_ret2
      exact ⟨rfl, rfl⟩
    · have e1 : (((lo : Int)) == (n : Int)) = false := by rw [beq_eq_false_iff_ne]; first | exact h1 | exact_mod_cast h1
      have w1 : p = lo := by rw [hp]; unfold endU1; rw [if_neg h1]
      clear hp
      subst w1
      have e2 : (((hi : Int)) == (n : Int)) = false := by rw [beq_eq_false_iff_ne]; first | exact h2 | exact_mod_cast h2
      have w2 : r = hi := by rw [hr]; unfold endU2; rw [if_neg h2]
      clear hr
      subst w2
      clear h1 h2
      go_enter Try.func86, Try.ntmps86
      go_wp2
      go_ret2
      exact ⟨rfl, rfl⟩
set_option maxRecDepth 100000 in
set_option maxHeartbeats 4000000 in
theorem endI_c (lo hi n : Int) (w : World) : Calls Try.prog 87 #[.int .i64 lo, .int .i64 hi, .int .i64 n] w fun e w' => e = .returned (.tuple #[.int .i64 (endI1 lo n), .int .i64 (endI2 hi n)]) ∧ w = w' := by
  obtain ⟨p, hp⟩ : ∃ p, p = endI1 lo n := ⟨_, rfl⟩
  obtain ⟨r, hr⟩ : ∃ r, r = endI2 hi n := ⟨_, rfl⟩
  rw [← hp, ← hr]
  by_cases h1 : lo = n
  · by_cases h2 : hi = n
    · have e1 : (((lo : Int)) == (n : Int)) = true := by rw [beq_iff_eq]; first | exact h1 | exact_mod_cast h1
      have w1 : IntKind.i64.wrap (lo + 1) = p := by rw [hp]; unfold endI1; rw [if_pos h1]
      clear hp
      have e2 : (((hi : Int)) == (n : Int)) = true := by rw [beq_iff_eq]; first | exact h2 | exact_mod_cast h2
      have w2 : IntKind.i64.wrap (hi - 1) = r := by rw [hr]; unfold endI2; rw [if_pos h2]
      clear hr
      clear h1 h2
      go_enter Try.func87, Try.ntmps87
      go_wp2
      go_ret2
      exact ⟨rfl, rfl⟩
    · have e1 : (((lo : Int)) == (n : Int)) = true := by rw [beq_iff_eq]; first | exact h1 | exact_mod_cast h1
      have w1 : IntKind.i64.wrap (lo + 1) = p := by rw [hp]; unfold endI1; rw [if_pos h1]
      clear hp
      have e2 : (((hi : Int)) == (n : Int)) = false := by rw [beq_eq_false_iff_ne]; first | exact h2 | exact_mod_cast h2
      have w2 : r = hi := by rw [hr]; unfold endI2; rw [if_neg h2]
      clear hr
      subst w2
      clear h1 h2
      go_enter Try.func87, Try.ntmps87
      go_wp2
      go_ret2
      exact ⟨rfl, rfl⟩
  · by_cases h2 : hi = n
    · have e1 : (((lo : Int)) == (n : Int)) = false := by rw [beq_eq_false_iff_ne]; first | exact h1 | exact_mod_cast h1
      have w1 : p = lo := by rw [hp]; unfold endI1; rw [if_neg h1]
      clear hp
      subst w1
      have e2 : (((hi : Int)) == (n : Int)) = true := by rw [beq_iff_eq]; first | exact h2 | exact_mod_cast h2
      have w2 : IntKind.i64.wrap (hi - 1) = r := by rw [hr]; unfold endI2; rw [if_pos h2]
      clear hr
      clear h1 h2
      go_enter Try.func87, Try.ntmps87
      go_wp2
      go_ret2
      exact ⟨rfl, rfl⟩
    · have e1 : (((lo : Int)) == (n : Int)) = false := by rw [beq_eq_false_iff_ne]; first | exact h1 | exact_mod_cast h1
      have w1 : p = lo := by rw [hp]; unfold endI1; rw [if_neg h1]
      clear hp
      subst w1
      have e2 : (((hi : Int)) == (n : Int)) = false := by rw [beq_eq_false_iff_ne]; first | exact h2 | exact_mod_cast h2
      have w2 : r = hi := by rw [hr]; unfold endI2; rw [if_neg h2]
      clear hr
      subst w2
      clear h1 h2
      go_enter Try.func87, Try.ntmps87
      go_wp2
      go_ret2
      exact ⟨rfl, rfl⟩
set_option maxRecDepth 100000 in
set_option maxHeartbeats 4000000 in
theorem none_c (v m lo hi xv xm xlo xhi : Nat) (sl sh xsl xsh : Int) (w : World) (hr : Rg ⟨⟨v, m⟩, ⟨lo, hi, sl, sh⟩⟩) (hx : Rg ⟨⟨xv, xm⟩, ⟨xlo, xhi, xsl, xsh⟩⟩) : Calls Try.prog 48 #[.agg #[.int .u64 v, .int .u64 m, .int .u64 lo, .int .u64 hi, .int .i64 sl, .int .i64 sh], .agg #[.int .u64 xv, .int .u64 xm, .int .u64 xlo, .int .u64 xhi, .int .i64 xsl, .int .i64 xsh]] w (RulePost (noneT ⟨⟨v, m⟩, ⟨lo, hi, sl, sh⟩⟩ ⟨⟨xv, xm⟩, ⟨xlo, xhi, xsl, xsh⟩⟩) w) := by
  have C0 : Hid (∀ w, Calls Try.prog 49 #[.agg #[.int .u64 v, .int .u64 m, .int .u64 lo, .int .u64 hi, .int .i64 sl, .int .i64 sh], .int .u64 xv, .int .u64 0] w (RulePost (noneT ⟨⟨v, m⟩, ⟨lo, hi, sl, sh⟩⟩ ⟨⟨xv, xm⟩, ⟨xlo, xhi, xsl, xsh⟩⟩) w)) := Lib.hid (fun w => known_c v m lo hi sl sh xv 0 w hx.v hr)
  obtain ⟨r, hr0⟩ : ∃ r, r = noneT ⟨⟨v, m⟩, ⟨lo, hi, sl, sh⟩⟩ ⟨⟨xv, xm⟩, ⟨xlo, xhi, xsl, xsh⟩⟩ := ⟨_, rfl⟩
  rw [← hr0] at C0 ⊢
  clear hr0 hr hx
  go_enter Try.func48, Try.ntmps48
  go_wp2_with fail
  refine (C0.out _).mono ?_
  rintro e w8 ⟨⟨⟨gv, gm⟩, ⟨gl, gh, gi, gj⟩⟩, rfl, hc, hb8⟩
  have HC := Lib.hid hc
  obtain ⟨gb, hgb⟩ : ∃ b, r.isSome = b := ⟨_, rfl⟩
  have HGB := Lib.hid hgb
  simp only [Sc.val]
  rw [hgb]
  clear hc hgb
  have hR : w8.heap[w.heap.size + 1 + 1]? = some (.cells #[.int .u64 0, .int .u64 0, .int .u64 0, .int .u64 0, .int .i64 0, .int .i64 0] 28) := hb8.heap (by repeat (first | (with_reducible refine al_eq _ _ _ ?_; (simp only [size_alloc]; done)) | with_reducible refine al_keep ?_ _ | with_reducible refine dr_keep ?_)) (by simp)
  obtain ⟨cR0, cR1, cR2, cR3, cR4, cR5⟩ := c6_of hR
  obtain ⟨fR0, fR1, fR2, fR3, fR4, fR5⟩ := f6_of hR
  have zR := lt_of hR
  have HB : Hid (But [] w w8) := Lib.hid ((by repeat (first | with_reducible exact But.refl _ _ | with_reducible refine But.drew ?_ | with_reducible refine But.alloc ?_ _) : But [] w _).trans hb8 (by simp))
  have HR := Lib.hid hR
  clear hR hb8
  go_wp2_with fail
  exact bodyPost_ret (v := .tuple #[.agg #[.int .u64 gv, .int .u64 gm, .int .u64 gl, .int .u64 gh, .int .i64 gi, .int .i64 gj], .bool gb]) (by simp [results, Try.results48, go_sem, cR0, cR1, cR2, cR3, cR4, cR5]) rfl (RulePost.mk (⟨⟨gv, gm⟩, ⟨gl, gh, gi, gj⟩⟩) (by rw [HGB.out]; rfl) (HC.out) (by
    repeat (first | with_reducible exact HB.out | with_reducible refine But.alloc ?_ _ | (with_reducible refine But.setCell ?_ (.inr ?_) _; rotate_left; (simp only []; omega)))))
set_option maxRecDepth 100000 in
set_option maxHeartbeats 4000000 in
theorem other_c (v m lo hi xv xm xlo xhi : Nat) (sl sh xsl xsh : Int) (w : World) (hr : Rg ⟨⟨v, m⟩, ⟨lo, hi, sl, sh⟩⟩) (hx : Rg ⟨⟨xv, xm⟩, ⟨xlo, xhi, xsl, xsh⟩⟩) : Calls Try.prog 52 #[.agg #[.int .u64 v, .int .u64 m, .int .u64 lo, .int .u64 hi, .int .i64 sl, .int .i64 sh], .agg #[.int .u64 xv, .int .u64 xm, .int .u64 xlo, .int .u64 xhi, .int .i64 xsl, .int .i64 xsh]] w (RulePost (otherT ⟨⟨v, m⟩, ⟨lo, hi, sl, sh⟩⟩ ⟨⟨xv, xm⟩, ⟨xlo, xhi, xsl, xsh⟩⟩) w) := by
  have C0 := Lib.hid (fun w => scOne0 xv xm xlo xhi xsl xsh w hx)
  have C1 := Lib.hid (fun w => scOne0 v m lo hi sl sh w hr)
  cases e0 : oneT ⟨⟨xv, xm⟩, ⟨xlo, xhi, xsl, xsh⟩⟩ with
  | none =>
    rw [e0] at C0
    simp only [Option.getD, Option.isSome] at C0
    have HE : Hid (otherT ⟨⟨v, m⟩, ⟨lo, hi, sl, sh⟩⟩ ⟨⟨xv, xm⟩, ⟨xlo, xhi, xsl, xsh⟩⟩ = some ⟨⟨v, m⟩, ⟨lo, hi, sl, sh⟩⟩) := Lib.hid (by unfold otherT; rw [e0])
    clear e0 hr hx C1
    go_enter Try.func52, Try.ntmps52
    go_wp2_with fail
    refine (C0.out _).mono ?_
    rintro e w8 ⟨rfl, hb8⟩
    have hA : w8.heap[w.heap.size]? = some (.cells #[.int .u64 v, .int .u64 m, .int .u64 lo, .int .u64 hi, .int .i64 sl, .int .i64 sh] 28) := hb8.heap (by repeat (first | (with_reducible refine al_eq _ _ _ ?_; (simp only [size_alloc]; done)) | with_reducible refine al_keep ?_ _ | with_reducible refine dr_keep ?_)) (by simp)
    have hX : w8.heap[w.heap.size + 1]? = some (.cells #[.int .u64 xv, .int .u64 xm, .int .u64 xlo, .int .u64 xhi, .int .i64 xsl, .int .i64 xsh] 28) := hb8.heap (by repeat (first | (with_reducible refine al_eq _ _ _ ?_; (simp only [size_alloc]; done)) | with_reducible refine al_keep ?_ _ | with_reducible refine dr_keep ?_)) (by simp)
    have hR : w8.heap[w.heap.size + 1 + 1]? = some (.cells #[.int .u64 0, .int .u64 0, .int .u64 0, .int .u64 0, .int .i64 0, .int .i64 0] 28) := hb8.heap (by repeat (first | (with_reducible refine al_eq _ _ _ ?_; (simp only [size_alloc]; done)) | with_reducible refine al_keep ?_ _ | with_reducible refine dr_keep ?_)) (by simp)
    obtain ⟨cA0, cA1, cA2, cA3, cA4, cA5⟩ := c6_of hA
    obtain ⟨fA0, fA1, fA2, fA3, fA4, fA5⟩ := f6_of hA
    have zA := lt_of hA
    obtain ⟨cX0, cX1, cX2, cX3, cX4, cX5⟩ := c6_of hX
    have zX := lt_of hX
    obtain ⟨cR0, cR1, cR2, cR3, cR4, cR5⟩ := c6_of hR
    obtain ⟨fR0, fR1, fR2, fR3, fR4, fR5⟩ := f6_of hR
    have zR := lt_of hR
    have HB : Hid (But [] w w8) := Lib.hid ((by repeat (first | with_reducible exact But.refl _ _ | with_reducible refine But.drew ?_ | with_reducible refine But.alloc ?_ _) : But [] w _).trans hb8 (by simp))
    have HA := Lib.hid hA
    have HX := Lib.hid hX
    have HR := Lib.hid hR
    clear hA hX hR hb8
    go_wp2_with fail
    exact bodyPost_ret (v := .tuple #[.agg #[.int .u64 v, .int .u64 m, .int .u64 lo, .int .u64 hi, .int .i64 sl, .int .i64 sh], .bool true]) (by simp [results, Try.results52, go_sem, cR0, cR1, cR2, cR3, cR4, cR5]) rfl (RulePost.mk (⟨⟨v, m⟩, ⟨lo, hi, sl, sh⟩⟩) (by rw [HE.out]; rfl) (fun d hd => by rw [HE.out] at hd; cases hd; rfl) (by
    repeat (first | with_reducible exact HB.out | with_reducible refine But.alloc ?_ _ | (with_reducible refine But.setCell ?_ (.inr ?_) _; rotate_left; (simp only []; omega)))))
  | some n =>
    rw [e0] at C0
    simp only [Option.getD, Option.isSome] at C0
    cases e1 : oneT ⟨⟨v, m⟩, ⟨lo, hi, sl, sh⟩⟩ with
    | none =>
      rw [e1] at C1
      simp only [Option.getD, Option.isSome] at C1
      obtain ⟨y, hy⟩ : ∃ y, IntKind.i64.wrap ((n : Nat) : Int) = y := ⟨_, rfl⟩
      obtain ⟨p, hp⟩ : ∃ p, p = endU1 lo n := ⟨_, rfl⟩
      obtain ⟨r, hr1⟩ : ∃ r, r = endU2 hi n := ⟨_, rfl⟩
      obtain ⟨s, hs⟩ : ∃ s, s = endI1 sl y := ⟨_, rfl⟩
      obtain ⟨t, ht⟩ : ∃ t, t = endI2 sh y := ⟨_, rfl⟩
      have C2 := Lib.hid (fun w => endU_c lo hi n w)
      have C3 := Lib.hid (fun w => endI_c sl sh y w)
      rw [← hp, ← hr1] at C2
      rw [← hs, ← ht] at C3
      have hen : endsA ⟨lo, hi, sl, sh⟩ n = ⟨p, r, s, t⟩ := by rw [ends_eq]; simp only [show toS n = y from hy, hp, hr1, hs, ht]
      have hrg := endsRg hr n
      simp only at hrg
      rw [hen] at hrg
      obtain ⟨⟨⟨gv, gm⟩, ⟨gl, gh, gi, gj⟩⟩, hg⟩ : ∃ g : Sc, (ofT ⟨⟨v, m⟩, ⟨p, r, s, t⟩⟩).getD zeroSc = g := ⟨_, rfl⟩
      obtain ⟨gb, hgb⟩ : ∃ b, (ofT ⟨⟨v, m⟩, ⟨p, r, s, t⟩⟩).isSome = b := ⟨_, rfl⟩
      have C4 := Lib.hid (fun w => bounded_c v m lo hi sl sh p r s t w hrg)
      have C5 : Hid (∀ w, Calls Try.prog 88 #[.agg #[.int .u64 v, .int .u64 m, .int .u64 p, .int .u64 r, .int .i64 s, .int .i64 t], .agg #[.int .u64 p, .int .u64 r, .int .i64 s, .int .i64 t]] w fun e w' => e = .returned (.tuple #[.agg #[.int .u64 gv, .int .u64 gm, .int .u64 gl, .int .u64 gh, .int .i64 gi, .int .i64 gj], .bool gb]) ∧ But [] w w') := Lib.hid (fun w => by
        have h := bounded_c v m p r s t p r s t w hrg
        rw [hg, hgb] at h
        exact h)
      have HE : Hid (otherT ⟨⟨v, m⟩, ⟨lo, hi, sl, sh⟩⟩ ⟨⟨xv, xm⟩, ⟨xlo, xhi, xsl, xsh⟩⟩ = ofT ⟨⟨v, m⟩, ⟨p, r, s, t⟩⟩) := Lib.hid (by unfold otherT; rw [e0]; simp only; rw [if_neg (by rw [e1]; simp), hen])
      have HG := Lib.hid hg
      have HGB := Lib.hid hgb
      clear C4 hg hgb hrg hen hp hr1 hs ht hr hx e0 e1
      go_enter Try.func52, Try.ntmps52
      go_wp2_with fail
      refine (C0.out _).mono ?_
      rintro e w8 ⟨rfl, hb8⟩
      have hA : w8.heap[w.heap.size]? = some (.cells #[.int .u64 v, .int .u64 m, .int .u64 lo, .int .u64 hi, .int .i64 sl, .int .i64 sh] 28) := hb8.heap (by repeat (first | (with_reducible refine al_eq _ _ _ ?_; (simp only [size_alloc]; done)) | with_reducible refine al_keep ?_ _ | with_reducible refine dr_keep ?_)) (by simp)
      have hX : w8.heap[w.heap.size + 1]? = some (.cells #[.int .u64 xv, .int .u64 xm, .int .u64 xlo, .int .u64 xhi, .int .i64 xsl, .int .i64 xsh] 28) := hb8.heap (by repeat (first | (with_reducible refine al_eq _ _ _ ?_; (simp only [size_alloc]; done)) | with_reducible refine al_keep ?_ _ | with_reducible refine dr_keep ?_)) (by simp)
      have hR : w8.heap[w.heap.size + 1 + 1]? = some (.cells #[.int .u64 0, .int .u64 0, .int .u64 0, .int .u64 0, .int .i64 0, .int .i64 0] 28) := hb8.heap (by repeat (first | (with_reducible refine al_eq _ _ _ ?_; (simp only [size_alloc]; done)) | with_reducible refine al_keep ?_ _ | with_reducible refine dr_keep ?_)) (by simp)
      obtain ⟨cA0, cA1, cA2, cA3, cA4, cA5⟩ := c6_of hA
      obtain ⟨fA0, fA1, fA2, fA3, fA4, fA5⟩ := f6_of hA
      have zA := lt_of hA
      obtain ⟨cX0, cX1, cX2, cX3, cX4, cX5⟩ := c6_of hX
      have zX := lt_of hX
      obtain ⟨cR0, cR1, cR2, cR3, cR4, cR5⟩ := c6_of hR
      obtain ⟨fR0, fR1, fR2, fR3, fR4, fR5⟩ := f6_of hR
      have zR := lt_of hR
      have HB : Hid (But [] w w8) := Lib.hid ((by repeat (first | with_reducible exact But.refl _ _ | with_reducible refine But.drew ?_ | with_reducible refine But.alloc ?_ _) : But [] w _).trans hb8 (by simp))
      have HA := Lib.hid hA
      have HX := Lib.hid hX
      have HR := Lib.hid hR
      clear hA hX hR hb8
      go_wp2_with fail
      refine (C1.out _).mono ?_
      rintro e w9 ⟨rfl, hb9⟩
      have hA : w9.heap[w.heap.size]? = some (.cells #[.int .u64 v, .int .u64 m, .int .u64 lo, .int .u64 hi, .int .i64 sl, .int .i64 sh] 28) := hb9.heap (HA.out) (by simp)
      have hX : w9.heap[w.heap.size + 1]? = some (.cells #[.int .u64 xv, .int .u64 xm, .int .u64 xlo, .int .u64 xhi, .int .i64 xsl, .int .i64 xsh] 28) := hb9.heap (HX.out) (by simp)
      have hR : w9.heap[w.heap.size + 1 + 1]? = some (.cells #[.int .u64 0, .int .u64 0, .int .u64 0, .int .u64 0, .int .i64 0, .int .i64 0] 28) := hb9.heap (HR.out) (by simp)
      clear zA zX zR
      clear cA0 cA1 cA2 cA3 cA4 cA5 cX0 cX1 cX2 cX3 cX4 cX5 cR0 cR1 cR2 cR3 cR4 cR5
      clear fA0 fA1 fA2 fA3 fA4 fA5 fR0 fR1 fR2 fR3 fR4 fR5
      obtain ⟨cA0, cA1, cA2, cA3, cA4, cA5⟩ := c6_of hA
      obtain ⟨fA0, fA1, fA2, fA3, fA4, fA5⟩ := f6_of hA
      have zA := lt_of hA
      obtain ⟨cX0, cX1, cX2, cX3, cX4, cX5⟩ := c6_of hX
      have zX := lt_of hX
      obtain ⟨cR0, cR1, cR2, cR3, cR4, cR5⟩ := c6_of hR
      obtain ⟨fR0, fR1, fR2, fR3, fR4, fR5⟩ := f6_of hR
      have zR := lt_of hR
      have HB : Hid (But [] w w9) := Lib.hid ((HB.out).trans hb9 (by simp))
      have HA := Lib.hid hA
      have HX := Lib.hid hX
      have HR := Lib.hid hR
      clear hA hX hR hb9
      go_wp2_with fail
      refine (C2.out _).mono ?_
      rintro e w10 ⟨rfl, rfl⟩
      go_wp2_with fail
      refine (C3.out _).mono ?_
      rintro e w11 ⟨rfl, rfl⟩
      go_wp2_with fail
      refine (C5.out _).mono ?_
      rintro e w12 ⟨rfl, hb12⟩
      have hR : w12.heap[w.heap.size + 1 + 1]? = some (.cells #[.int .u64 0, .int .u64 0, .int .u64 0, .int .u64 0, .int .i64 0, .int .i64 0] 28) := hb12.heap (by refine sc_keep (sc_keep (sc_keep (sc_keep HR.out ?_) ?_) ?_) ?_ <;> (simp only [ne_eq]; omega)) (by simp)
      clear zA zX zR
      clear cA0 cA1 cA2 cA3 cA4 cA5 cX0 cX1 cX2 cX3 cX4 cX5 cR0 cR1 cR2 cR3 cR4 cR5
      clear fA0 fA1 fA2 fA3 fA4 fA5 fR0 fR1 fR2 fR3 fR4 fR5
      obtain ⟨cR0, cR1, cR2, cR3, cR4, cR5⟩ := c6_of hR
      obtain ⟨fR0, fR1, fR2, fR3, fR4, fR5⟩ := f6_of hR
      have zR := lt_of hR
      have HB : Hid (But [] w w12) := Lib.hid (((by repeat (first | with_reducible exact HB.out | (with_reducible refine But.setCell ?_ (.inr ?_) _; rotate_left; (simp only []; omega))) : But [] w _)).trans hb12 (by simp))
      have HR := Lib.hid hR
      clear hR hb12
      go_wp2_with fail
      exact bodyPost_ret (v := .tuple #[.agg #[.int .u64 gv, .int .u64 gm, .int .u64 gl, .int .u64 gh, .int .i64 gi, .int .i64 gj], .bool gb]) (by simp [results, Try.results52, go_sem, cR0, cR1, cR2, cR3, cR4, cR5]) rfl (RulePost.mk (⟨⟨gv, gm⟩, ⟨gl, gh, gi, gj⟩⟩) (by rw [HE.out, HGB.out]; rfl) (fun d hd => by rw [HE.out] at hd; rw [← HG.out, hd]; rfl) (by
    repeat (first | with_reducible exact HB.out | with_reducible refine But.alloc ?_ _ | (with_reducible refine But.setCell ?_ (.inr ?_) _; rotate_left; (simp only []; omega)))))
    | some k =>
      rw [e1] at C1
      simp only [Option.getD, Option.isSome] at C1
      by_cases hk : k = n
      · subst hk
        have HE : Hid (otherT ⟨⟨v, m⟩, ⟨lo, hi, sl, sh⟩⟩ ⟨⟨xv, xm⟩, ⟨xlo, xhi, xsl, xsh⟩⟩ = none) := Lib.hid (by unfold otherT; rw [e0]; simp only; rw [if_pos e1])
        clear e0 e1 hr hx
        go_enter Try.func52, Try.ntmps52
        go_wp2_with fail
        refine (C0.out _).mono ?_
        rintro e w8 ⟨rfl, hb8⟩
        have hA : w8.heap[w.heap.size]? = some (.cells #[.int .u64 v, .int .u64 m, .int .u64 lo, .int .u64 hi, .int .i64 sl, .int .i64 sh] 28) := hb8.heap (by repeat (first | (with_reducible refine al_eq _ _ _ ?_; (simp only [size_alloc]; done)) | with_reducible refine al_keep ?_ _ | with_reducible refine dr_keep ?_)) (by simp)
        have hX : w8.heap[w.heap.size + 1]? = some (.cells #[.int .u64 xv, .int .u64 xm, .int .u64 xlo, .int .u64 xhi, .int .i64 xsl, .int .i64 xsh] 28) := hb8.heap (by repeat (first | (with_reducible refine al_eq _ _ _ ?_; (simp only [size_alloc]; done)) | with_reducible refine al_keep ?_ _ | with_reducible refine dr_keep ?_)) (by simp)
        have hR : w8.heap[w.heap.size + 1 + 1]? = some (.cells #[.int .u64 0, .int .u64 0, .int .u64 0, .int .u64 0, .int .i64 0, .int .i64 0] 28) := hb8.heap (by repeat (first | (with_reducible refine al_eq _ _ _ ?_; (simp only [size_alloc]; done)) | with_reducible refine al_keep ?_ _ | with_reducible refine dr_keep ?_)) (by simp)
        obtain ⟨cA0, cA1, cA2, cA3, cA4, cA5⟩ := c6_of hA
        obtain ⟨fA0, fA1, fA2, fA3, fA4, fA5⟩ := f6_of hA
        have zA := lt_of hA
        obtain ⟨cX0, cX1, cX2, cX3, cX4, cX5⟩ := c6_of hX
        have zX := lt_of hX
        obtain ⟨cR0, cR1, cR2, cR3, cR4, cR5⟩ := c6_of hR
        obtain ⟨fR0, fR1, fR2, fR3, fR4, fR5⟩ := f6_of hR
        have zR := lt_of hR
        have HB : Hid (But [] w w8) := Lib.hid ((by repeat (first | with_reducible exact But.refl _ _ | with_reducible refine But.drew ?_ | with_reducible refine But.alloc ?_ _) : But [] w _).trans hb8 (by simp))
        have HA := Lib.hid hA
        have HX := Lib.hid hX
        have HR := Lib.hid hR
        clear hA hX hR hb8
        go_wp2_with fail
        refine (C1.out _).mono ?_
        rintro e w9 ⟨rfl, hb9⟩
        have hA : w9.heap[w.heap.size]? = some (.cells #[.int .u64 v, .int .u64 m, .int .u64 lo, .int .u64 hi, .int .i64 sl, .int .i64 sh] 28) := hb9.heap (HA.out) (by simp)
        have hX : w9.heap[w.heap.size + 1]? = some (.cells #[.int .u64 xv, .int .u64 xm, .int .u64 xlo, .int .u64 xhi, .int .i64 xsl, .int .i64 xsh] 28) := hb9.heap (HX.out) (by simp)
        have hR : w9.heap[w.heap.size + 1 + 1]? = some (.cells #[.int .u64 0, .int .u64 0, .int .u64 0, .int .u64 0, .int .i64 0, .int .i64 0] 28) := hb9.heap (HR.out) (by simp)
        clear zA zX zR
        clear cA0 cA1 cA2 cA3 cA4 cA5 cX0 cX1 cX2 cX3 cX4 cX5 cR0 cR1 cR2 cR3 cR4 cR5
        clear fA0 fA1 fA2 fA3 fA4 fA5 fR0 fR1 fR2 fR3 fR4 fR5
        obtain ⟨cA0, cA1, cA2, cA3, cA4, cA5⟩ := c6_of hA
        obtain ⟨fA0, fA1, fA2, fA3, fA4, fA5⟩ := f6_of hA
        have zA := lt_of hA
        obtain ⟨cX0, cX1, cX2, cX3, cX4, cX5⟩ := c6_of hX
        have zX := lt_of hX
        obtain ⟨cR0, cR1, cR2, cR3, cR4, cR5⟩ := c6_of hR
        obtain ⟨fR0, fR1, fR2, fR3, fR4, fR5⟩ := f6_of hR
        have zR := lt_of hR
        have HB : Hid (But [] w w9) := Lib.hid ((HB.out).trans hb9 (by simp))
        have HA := Lib.hid hA
        have HX := Lib.hid hX
        have HR := Lib.hid hR
        clear hA hX hR hb9
        go_wp2_with fail
        exact bodyPost_ret (v := .tuple #[.agg #[.int .u64 0, .int .u64 0, .int .u64 0, .int .u64 0, .int .i64 0, .int .i64 0], .bool false]) (by simp [results, Try.results52, go_sem, cR0, cR1, cR2, cR3, cR4, cR5]) rfl (RulePost.mk (zeroSc) (by rw [HE.out]; rfl) (fun d hd => by rw [HE.out] at hd; cases hd) (by
    repeat (first | with_reducible exact HB.out | with_reducible refine But.alloc ?_ _ | (with_reducible refine But.setCell ?_ (.inr ?_) _; rotate_left; (simp only []; omega)))))
      · have hkn : ((k : Int) == (n : Int)) = false := by rw [beq_eq_false_iff_ne]; omega
        have HK := Lib.hid hk
        clear hk
        obtain ⟨y, hy⟩ : ∃ y, IntKind.i64.wrap ((n : Nat) : Int) = y := ⟨_, rfl⟩
        obtain ⟨p, hp⟩ : ∃ p, p = endU1 lo n := ⟨_, rfl⟩
        obtain ⟨r, hr1⟩ : ∃ r, r = endU2 hi n := ⟨_, rfl⟩
        obtain ⟨s, hs⟩ : ∃ s, s = endI1 sl y := ⟨_, rfl⟩
        obtain ⟨t, ht⟩ : ∃ t, t = endI2 sh y := ⟨_, rfl⟩
        have C2 := Lib.hid (fun w => endU_c lo hi n w)
        have C3 := Lib.hid (fun w => endI_c sl sh y w)
        rw [← hp, ← hr1] at C2
        rw [← hs, ← ht] at C3
        have hen : endsA ⟨lo, hi, sl, sh⟩ n = ⟨p, r, s, t⟩ := by rw [ends_eq]; simp only [show toS n = y from hy, hp, hr1, hs, ht]
        have hrg := endsRg hr n
        simp only at hrg
        rw [hen] at hrg
        obtain ⟨⟨⟨gv, gm⟩, ⟨gl, gh, gi, gj⟩⟩, hg⟩ : ∃ g : Sc, (ofT ⟨⟨v, m⟩, ⟨p, r, s, t⟩⟩).getD zeroSc = g := ⟨_, rfl⟩
        obtain ⟨gb, hgb⟩ : ∃ b, (ofT ⟨⟨v, m⟩, ⟨p, r, s, t⟩⟩).isSome = b := ⟨_, rfl⟩
        have C4 := Lib.hid (fun w => bounded_c v m lo hi sl sh p r s t w hrg)
        have C5 : Hid (∀ w, Calls Try.prog 88 #[.agg #[.int .u64 v, .int .u64 m, .int .u64 p, .int .u64 r, .int .i64 s, .int .i64 t], .agg #[.int .u64 p, .int .u64 r, .int .i64 s, .int .i64 t]] w fun e w' => e = .returned (.tuple #[.agg #[.int .u64 gv, .int .u64 gm, .int .u64 gl, .int .u64 gh, .int .i64 gi, .int .i64 gj], .bool gb]) ∧ But [] w w') := Lib.hid (fun w => by
          have h := bounded_c v m p r s t p r s t w hrg
          rw [hg, hgb] at h
          exact h)
        have HE : Hid (otherT ⟨⟨v, m⟩, ⟨lo, hi, sl, sh⟩⟩ ⟨⟨xv, xm⟩, ⟨xlo, xhi, xsl, xsh⟩⟩ = ofT ⟨⟨v, m⟩, ⟨p, r, s, t⟩⟩) := Lib.hid (by unfold otherT; rw [e0]; simp only; rw [if_neg (by rw [e1]; simpa using HK.out), hen])
        have HG := Lib.hid hg
        have HGB := Lib.hid hgb
        clear C4 hg hgb hrg hen hp hr1 hs ht hr hx e0 e1
        go_enter Try.func52, Try.ntmps52
        go_wp2_with fail
        refine (C0.out _).mono ?_
        rintro e w8 ⟨rfl, hb8⟩
        have hA : w8.heap[w.heap.size]? = some (.cells #[.int .u64 v, .int .u64 m, .int .u64 lo, .int .u64 hi, .int .i64 sl, .int .i64 sh] 28) := hb8.heap (by repeat (first | (with_reducible refine al_eq _ _ _ ?_; (simp only [size_alloc]; done)) | with_reducible refine al_keep ?_ _ | with_reducible refine dr_keep ?_)) (by simp)
        have hX : w8.heap[w.heap.size + 1]? = some (.cells #[.int .u64 xv, .int .u64 xm, .int .u64 xlo, .int .u64 xhi, .int .i64 xsl, .int .i64 xsh] 28) := hb8.heap (by repeat (first | (with_reducible refine al_eq _ _ _ ?_; (simp only [size_alloc]; done)) | with_reducible refine al_keep ?_ _ | with_reducible refine dr_keep ?_)) (by simp)
        have hR : w8.heap[w.heap.size + 1 + 1]? = some (.cells #[.int .u64 0, .int .u64 0, .int .u64 0, .int .u64 0, .int .i64 0, .int .i64 0] 28) := hb8.heap (by repeat (first | (with_reducible refine al_eq _ _ _ ?_; (simp only [size_alloc]; done)) | with_reducible refine al_keep ?_ _ | with_reducible refine dr_keep ?_)) (by simp)
        obtain ⟨cA0, cA1, cA2, cA3, cA4, cA5⟩ := c6_of hA
        obtain ⟨fA0, fA1, fA2, fA3, fA4, fA5⟩ := f6_of hA
        have zA := lt_of hA
        obtain ⟨cX0, cX1, cX2, cX3, cX4, cX5⟩ := c6_of hX
        have zX := lt_of hX
        obtain ⟨cR0, cR1, cR2, cR3, cR4, cR5⟩ := c6_of hR
        obtain ⟨fR0, fR1, fR2, fR3, fR4, fR5⟩ := f6_of hR
        have zR := lt_of hR
        have HB : Hid (But [] w w8) := Lib.hid ((by repeat (first | with_reducible exact But.refl _ _ | with_reducible refine But.drew ?_ | with_reducible refine But.alloc ?_ _) : But [] w _).trans hb8 (by simp))
        have HA := Lib.hid hA
        have HX := Lib.hid hX
        have HR := Lib.hid hR
        clear hA hX hR hb8
        go_wp2_with fail
        refine (C1.out _).mono ?_
        rintro e w9 ⟨rfl, hb9⟩
        have hA : w9.heap[w.heap.size]? = some (.cells #[.int .u64 v, .int .u64 m, .int .u64 lo, .int .u64 hi, .int .i64 sl, .int .i64 sh] 28) := hb9.heap (HA.out) (by simp)
        have hX : w9.heap[w.heap.size + 1]? = some (.cells #[.int .u64 xv, .int .u64 xm, .int .u64 xlo, .int .u64 xhi, .int .i64 xsl, .int .i64 xsh] 28) := hb9.heap (HX.out) (by simp)
        have hR : w9.heap[w.heap.size + 1 + 1]? = some (.cells #[.int .u64 0, .int .u64 0, .int .u64 0, .int .u64 0, .int .i64 0, .int .i64 0] 28) := hb9.heap (HR.out) (by simp)
        clear zA zX zR
        clear cA0 cA1 cA2 cA3 cA4 cA5 cX0 cX1 cX2 cX3 cX4 cX5 cR0 cR1 cR2 cR3 cR4 cR5
        clear fA0 fA1 fA2 fA3 fA4 fA5 fR0 fR1 fR2 fR3 fR4 fR5
        obtain ⟨cA0, cA1, cA2, cA3, cA4, cA5⟩ := c6_of hA
        obtain ⟨fA0, fA1, fA2, fA3, fA4, fA5⟩ := f6_of hA
        have zA := lt_of hA
        obtain ⟨cX0, cX1, cX2, cX3, cX4, cX5⟩ := c6_of hX
        have zX := lt_of hX
        obtain ⟨cR0, cR1, cR2, cR3, cR4, cR5⟩ := c6_of hR
        obtain ⟨fR0, fR1, fR2, fR3, fR4, fR5⟩ := f6_of hR
        have zR := lt_of hR
        have HB : Hid (But [] w w9) := Lib.hid ((HB.out).trans hb9 (by simp))
        have HA := Lib.hid hA
        have HX := Lib.hid hX
        have HR := Lib.hid hR
        clear hA hX hR hb9
        go_wp2_with fail
        refine (C2.out _).mono ?_
        rintro e w10 ⟨rfl, rfl⟩
        go_wp2_with fail
        refine (C3.out _).mono ?_
        rintro e w11 ⟨rfl, rfl⟩
        go_wp2_with fail
        refine (C5.out _).mono ?_
        rintro e w12 ⟨rfl, hb12⟩
        have hR : w12.heap[w.heap.size + 1 + 1]? = some (.cells #[.int .u64 0, .int .u64 0, .int .u64 0, .int .u64 0, .int .i64 0, .int .i64 0] 28) := hb12.heap (by refine sc_keep (sc_keep (sc_keep (sc_keep HR.out ?_) ?_) ?_) ?_ <;> (simp only [ne_eq]; omega)) (by simp)
        clear zA zX zR
        clear cA0 cA1 cA2 cA3 cA4 cA5 cX0 cX1 cX2 cX3 cX4 cX5 cR0 cR1 cR2 cR3 cR4 cR5
        clear fA0 fA1 fA2 fA3 fA4 fA5 fR0 fR1 fR2 fR3 fR4 fR5
        obtain ⟨cR0, cR1, cR2, cR3, cR4, cR5⟩ := c6_of hR
        obtain ⟨fR0, fR1, fR2, fR3, fR4, fR5⟩ := f6_of hR
        have zR := lt_of hR
        have HB : Hid (But [] w w12) := Lib.hid (((by repeat (first | with_reducible exact HB.out | (with_reducible refine But.setCell ?_ (.inr ?_) _; rotate_left; (simp only []; omega))) : But [] w _)).trans hb12 (by simp))
        have HR := Lib.hid hR
        clear hR hb12
        go_wp2_with fail
        exact bodyPost_ret (v := .tuple #[.agg #[.int .u64 gv, .int .u64 gm, .int .u64 gl, .int .u64 gh, .int .i64 gi, .int .i64 gj], .bool gb]) (by simp [results, Try.results52, go_sem, cR0, cR1, cR2, cR3, cR4, cR5]) rfl (RulePost.mk (⟨⟨gv, gm⟩, ⟨gl, gh, gi, gj⟩⟩) (by rw [HE.out, HGB.out]; rfl) (fun d hd => by rw [HE.out] at hd; rw [← HG.out, hd]; rfl) (by
    repeat (first | with_reducible exact HB.out | with_reducible refine But.alloc ?_ _ | (with_reducible refine But.setCell ?_ (.inr ?_) _; rotate_left; (simp only []; omega)))))
end Go.Proofs.Ytmbmmcippglfoaa.M
