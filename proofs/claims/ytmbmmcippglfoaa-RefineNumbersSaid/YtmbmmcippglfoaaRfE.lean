/-
  The reference: hatchwayref21.known, without.
-/
import Derived.Test.YtmbmmcippglfoaaRfD
import Derived.Test.YtmbmmcippglfoaaBrA
namespace Go.Proofs.Ytmbmmcippglfoaa.M
open Go.RowKit Go.Shelf
set_option linter.unusedVariables false
set_option linter.unusedSectionVars false
set_option linter.unusedSimpArgs false

set_option maxRecDepth 100000 in
set_option maxHeartbeats 4000000 in
theorem r21known (v m lo hi : Nat) (sl sh : Int) (p q : Nat) (w : World) (hp : p < 18446744073709551616) (hq : q < 18446744073709551616) (hr : Rg ⟨⟨v, m⟩, ⟨lo, hi, sl, sh⟩⟩) : Calls Try.prog 74 #[.agg #[.int .u64 v, .int .u64 m, .int .u64 lo, .int .u64 hi, .int .i64 sl, .int .i64 sh], .int .u64 p, .int .u64 q] w (RulePost (knownT ⟨⟨v, m⟩, ⟨lo, hi, sl, sh⟩⟩ p q) w) := by
  have hX := xor_not p hp
  have hsg : IntKind.u64.signed = false := rfl
  have HR0 := Lib.hid (fun h => knownRg hr p q h)
  obtain ⟨n, hn⟩ : ∃ n, n = unot p := ⟨_, rfl⟩
  rw [← hn] at hX
  have hM := fun w => r17Meet v m q n w hr.v hq
  obtain ⟨⟨tv, tm⟩, ht⟩ : ∃ r : Tn, r = meetT ⟨v, m⟩ ⟨q, n⟩ := ⟨_, rfl⟩
  rw [← ht] at hM
  simp only [Tn.val] at hM
  have G0 := Lib.hid hM
  have HE : Hid (knownT ⟨⟨v, m⟩, ⟨lo, hi, sl, sh⟩⟩ p q = if meetB ⟨v, m⟩ ⟨q, n⟩ then ofT ⟨⟨tv, tm⟩, ⟨lo, hi, sl, sh⟩⟩ else none) := Lib.hid (by unfold knownT; rw [← hn, ← ht])
  have HR1 : Hid (meetB ⟨v, m⟩ ⟨q, n⟩ = true → Rg ⟨⟨tv, tm⟩, ⟨lo, hi, sl, sh⟩⟩) := Lib.hid (fun h => by have h2 := HR0.out (by rw [← hn]; exact h); rw [← hn, ← ht] at h2; exact h2)
  clear hM hn ht hp hq hr HR0
  cases e0 : meetB ⟨v, m⟩ ⟨q, n⟩ with
  | false =>
    rw [e0] at G0
    rw [e0] at HE
    clear e0
    go_enter Try.func74, Try.ntmps74
    go_wp2_with fail
    refine (G0.out _).mono ?_
    rintro e w8 ⟨rfl, hb8⟩
    have hA : w8.heap[w.heap.size]? = some (.cells #[.int .u64 v, .int .u64 m, .int .u64 lo, .int .u64 hi, .int .i64 sl, .int .i64 sh] 28) := hb8.heap (by repeat (first | (with_reducible refine al_eq _ _ _ ?_; (simp only [size_alloc]; done)) | with_reducible refine al_keep ?_ _ | with_reducible refine dr_keep ?_)) (by simp)
    have hR : w8.heap[w.heap.size + 1]? = some (.cells #[.int .u64 0, .int .u64 0, .int .u64 0, .int .u64 0, .int .i64 0, .int .i64 0] 28) := hb8.heap (by repeat (first | (with_reducible refine al_eq _ _ _ ?_; (simp only [size_alloc]; done)) | with_reducible refine al_keep ?_ _ | with_reducible refine dr_keep ?_)) (by simp)
    obtain ⟨cA0, cA1, cA2, cA3, cA4, cA5⟩ := c6_of hA
    have zA := lt_of hA
    obtain ⟨cR0, cR1, cR2, cR3, cR4, cR5⟩ := c6_of hR
    obtain ⟨fR0, fR1, fR2, fR3, fR4, fR5⟩ := f6_of hR
    have zR := lt_of hR
    have HB : Hid (But [] w w8) := Lib.hid ((by repeat (first | with_reducible exact But.refl _ _ | with_reducible refine But.drew ?_ | with_reducible refine But.alloc ?_ _) : But [] w _).trans hb8 (by simp))
    have HA := Lib.hid hA
    have HR := Lib.hid hR
    clear hA hR hb8
    clear hX hsg
    go_upto_region 2 with (fail)
    generalize hw : World.alloc w8 _ = w9
    have hA : w9.heap[w.heap.size]? = some (.cells #[.int .u64 v, .int .u64 m, .int .u64 lo, .int .u64 hi, .int .i64 sl, .int .i64 sh] 28) := by rw [← hw]; exact al_keep HA.out _
    have hR : w9.heap[w.heap.size + 1]? = some (.cells #[.int .u64 0, .int .u64 0, .int .u64 0, .int .u64 0, .int .i64 0, .int .i64 0] 28) := by rw [← hw]; exact al_keep HR.out _
    have hT : w9.heap[w8.heap.size]? = some (.cells #[.int .u64 tv, .int .u64 tm] 24) := by rw [← hw]; exact al_at _ _
    have HB : Hid (But [] w w9) := Lib.hid (by rw [← hw]; exact HB.out.alloc _)
    clear hw
    clear zA zR cA0 cA1 cA2 cA3 cA4 cA5 cR0 cR1 cR2 cR3 cR4 cR5 fR0 fR1 fR2 fR3 fR4 fR5
    obtain ⟨cA0, cA1, cA2, cA3, cA4, cA5⟩ := c6_of hA
    have zA := lt_of hA
    obtain ⟨cR0, cR1, cR2, cR3, cR4, cR5⟩ := c6_of hR
    obtain ⟨fR0, fR1, fR2, fR3, fR4, fR5⟩ := f6_of hR
    have zR := lt_of hR
    obtain ⟨cT0, cT1⟩ := c2_of hT
    have zT := lt_of hT
    have HA := Lib.hid hA
    have HR := Lib.hid hR
    have HT := Lib.hid hT
    clear hA hR hT
    go_wp2_with fail
    exact bodyPost_ret (v := .tuple #[.agg #[.int .u64 0, .int .u64 0, .int .u64 0, .int .u64 0, .int .i64 0, .int .i64 0], .bool false]) (by simp [results, Try.results74, go_sem, cR0, cR1, cR2, cR3, cR4, cR5]) rfl (RulePost.mk (zeroSc) (by rw [HE.out, if_neg (by decide)]; rfl) (fun d hd => by rw [HE.out, if_neg (by decide)] at hd; cases hd) (by
    repeat (first | with_reducible exact HB.out | with_reducible refine But.alloc ?_ _ | (with_reducible refine But.setCell ?_ (.inr ?_) _; rotate_left; (simp only []; omega)))))
  | true =>
    rw [e0] at G0
    rw [e0] at HE
    have hr1 := HR1.out e0
    clear e0
    obtain ⟨⟨⟨gv, gm⟩, ⟨gl, gh, gi, gj⟩⟩, hg⟩ : ∃ g : Sc, (ofT ⟨⟨tv, tm⟩, ⟨lo, hi, sl, sh⟩⟩).getD zeroSc = g := ⟨_, rfl⟩
    obtain ⟨gb, hgb⟩ : ∃ b, (ofT ⟨⟨tv, tm⟩, ⟨lo, hi, sl, sh⟩⟩).isSome = b := ⟨_, rfl⟩
    have G1 := Lib.hid (fun w => r21of_v tv tm lo hi gv gm gl gh sl sh gi gj gb hr1 hg hgb w)
    have HG := Lib.hid hg
    have HGB := Lib.hid hgb
    clear hr1 hg hgb HR1
    go_enter Try.func74, Try.ntmps74
    go_wp2_with fail
    refine (G0.out _).mono ?_
    rintro e w8 ⟨rfl, hb8⟩
    have hA : w8.heap[w.heap.size]? = some (.cells #[.int .u64 v, .int .u64 m, .int .u64 lo, .int .u64 hi, .int .i64 sl, .int .i64 sh] 28) := hb8.heap (by repeat (first | (with_reducible refine al_eq _ _ _ ?_; (simp only [size_alloc]; done)) | with_reducible refine al_keep ?_ _ | with_reducible refine dr_keep ?_)) (by simp)
    have hR : w8.heap[w.heap.size + 1]? = some (.cells #[.int .u64 0, .int .u64 0, .int .u64 0, .int .u64 0, .int .i64 0, .int .i64 0] 28) := hb8.heap (by repeat (first | (with_reducible refine al_eq _ _ _ ?_; (simp only [size_alloc]; done)) | with_reducible refine al_keep ?_ _ | with_reducible refine dr_keep ?_)) (by simp)
    obtain ⟨cA0, cA1, cA2, cA3, cA4, cA5⟩ := c6_of hA
    have zA := lt_of hA
    obtain ⟨cR0, cR1, cR2, cR3, cR4, cR5⟩ := c6_of hR
    obtain ⟨fR0, fR1, fR2, fR3, fR4, fR5⟩ := f6_of hR
    have zR := lt_of hR
    have HB : Hid (But [] w w8) := Lib.hid ((by repeat (first | with_reducible exact But.refl _ _ | with_reducible refine But.drew ?_ | with_reducible refine But.alloc ?_ _) : But [] w _).trans hb8 (by simp))
    have HA := Lib.hid hA
    have HR := Lib.hid hR
    clear hA hR hb8
    clear hX hsg
    go_upto_region 2 with (fail)
    generalize hw : World.alloc w8 _ = w9
    have hA : w9.heap[w.heap.size]? = some (.cells #[.int .u64 v, .int .u64 m, .int .u64 lo, .int .u64 hi, .int .i64 sl, .int .i64 sh] 28) := by rw [← hw]; exact al_keep HA.out _
    have hR : w9.heap[w.heap.size + 1]? = some (.cells #[.int .u64 0, .int .u64 0, .int .u64 0, .int .u64 0, .int .i64 0, .int .i64 0] 28) := by rw [← hw]; exact al_keep HR.out _
    have hT : w9.heap[w8.heap.size]? = some (.cells #[.int .u64 tv, .int .u64 tm] 24) := by rw [← hw]; exact al_at _ _
    have HB : Hid (But [] w w9) := Lib.hid (by rw [← hw]; exact HB.out.alloc _)
    clear hw
    clear zA zR cA0 cA1 cA2 cA3 cA4 cA5 cR0 cR1 cR2 cR3 cR4 cR5 fR0 fR1 fR2 fR3 fR4 fR5
    obtain ⟨cA0, cA1, cA2, cA3, cA4, cA5⟩ := c6_of hA
    have zA := lt_of hA
    obtain ⟨cR0, cR1, cR2, cR3, cR4, cR5⟩ := c6_of hR
    obtain ⟨fR0, fR1, fR2, fR3, fR4, fR5⟩ := f6_of hR
    have zR := lt_of hR
    obtain ⟨cT0, cT1⟩ := c2_of hT
    have zT := lt_of hT
    have HA := Lib.hid hA
    have HR := Lib.hid hR
    have HT := Lib.hid hT
    clear hA hR hT
    go_wp2_with fail
    refine (G1.out _).mono ?_
    rintro e w10 ⟨rfl, hb10⟩
    have hR : w10.heap[w.heap.size + 1]? = some (.cells #[.int .u64 0, .int .u64 0, .int .u64 0, .int .u64 0, .int .i64 0, .int .i64 0] 28) := hb10.heap (HR.out) (by simp)
    clear zA zR zT
    clear cA0 cA1 cA2 cA3 cA4 cA5 cR0 cR1 cR2 cR3 cR4 cR5 cT0 cT1
    clear fR0 fR1 fR2 fR3 fR4 fR5
    obtain ⟨cR0, cR1, cR2, cR3, cR4, cR5⟩ := c6_of hR
    obtain ⟨fR0, fR1, fR2, fR3, fR4, fR5⟩ := f6_of hR
    have zR := lt_of hR
    have HB : Hid (But [] w w10) := Lib.hid ((HB.out).trans hb10 (by simp))
    have HR := Lib.hid hR
    clear hR hb10
    go_wp2_with fail
    exact bodyPost_ret (v := .tuple #[.agg #[.int .u64 gv, .int .u64 gm, .int .u64 gl, .int .u64 gh, .int .i64 gi, .int .i64 gj], .bool gb]) (by simp [results, Try.results74, go_sem, cR0, cR1, cR2, cR3, cR4, cR5]) rfl (RulePost.mk (⟨⟨gv, gm⟩, ⟨gl, gh, gi, gj⟩⟩) (by rw [HE.out, if_pos trivial, HGB.out]; rfl) (fun d hd => by rw [HE.out, if_pos trivial] at hd; rw [← HG.out, hd]; rfl) (by
    repeat (first | with_reducible exact HB.out | with_reducible refine But.alloc ?_ _ | (with_reducible refine But.setCell ?_ (.inr ?_) _; rotate_left; (simp only []; omega)))))
theorem set1of4 {w : World} {k : Nat} {x0 x1 x2 x3 a : Value} {t : TypeId} (h : w.heap[k]? = some (.cells #[x0, x1, x2, x3] t)) : (w.setCell ⟨k, 0, none⟩ a).heap[k]? = some (.cells #[a, x1, x2, x3] t) ∧ (w.setCell ⟨k, 1, none⟩ a).heap[k]? = some (.cells #[x0, a, x2, x3] t) ∧ (w.setCell ⟨k, 2, none⟩ a).heap[k]? = some (.cells #[x0, x1, a, x3] t) ∧ (w.setCell ⟨k, 3, none⟩ a).heap[k]? = some (.cells #[x0, x1, x2, a] t) := by
  simp [World.setCell, Array.getElem?_modify, h]
set_option maxRecDepth 100000 in
set_option maxHeartbeats 4000000 in
theorem r21without (v m lo hi xv xm xlo xhi : Nat) (sl sh xsl xsh : Int) (w : World) (hr : Rg ⟨⟨v, m⟩, ⟨lo, hi, sl, sh⟩⟩) (hx : Rg ⟨⟨xv, xm⟩, ⟨xlo, xhi, xsl, xsh⟩⟩) : Calls Try.prog 70 #[.agg #[.int .u64 v, .int .u64 m, .int .u64 lo, .int .u64 hi, .int .i64 sl, .int .i64 sh], .agg #[.int .u64 xv, .int .u64 xm, .int .u64 xlo, .int .u64 xhi, .int .i64 xsl, .int .i64 xsh]] w (RulePost (otherT ⟨⟨v, m⟩, ⟨lo, hi, sl, sh⟩⟩ ⟨⟨xv, xm⟩, ⟨xlo, xhi, xsl, xsh⟩⟩) w) := by
  have C0 := Lib.hid (fun w => r19One0 xv xm xlo xhi xsl xsh w hx)
  have C1 := Lib.hid (fun w => r19One0 v m lo hi sl sh w hr)
  cases e0 : oneT ⟨⟨xv, xm⟩, ⟨xlo, xhi, xsl, xsh⟩⟩ with
  | none =>
    rw [e0] at C0
    simp only [Option.getD, Option.isSome] at C0
    have HE : Hid (otherT ⟨⟨v, m⟩, ⟨lo, hi, sl, sh⟩⟩ ⟨⟨xv, xm⟩, ⟨xlo, xhi, xsl, xsh⟩⟩ = some ⟨⟨v, m⟩, ⟨lo, hi, sl, sh⟩⟩) := Lib.hid (by unfold otherT; rw [e0])
    clear e0 hr hx C1
    go_enter Try.func70, Try.ntmps70
    go_wp2_with fail
    refine (C0.out _).mono ?_
    rintro e w8 ⟨rfl, hb8⟩
    have hA : w8.heap[w.heap.size]? = some (.cells #[.int .u64 v, .int .u64 m, .int .u64 lo, .int .u64 hi, .int .i64 sl, .int .i64 sh] 28) := hb8.heap (by repeat (first | (with_reducible refine al_eq _ _ _ ?_; (simp only [size_alloc]; done)) | with_reducible refine al_keep ?_ _ | with_reducible refine dr_keep ?_)) (by simp)
    have hX : w8.heap[w.heap.size + 1]? = some (.cells #[.int .u64 xv, .int .u64 xm, .int .u64 xlo, .int .u64 xhi, .int .i64 xsl, .int .i64 xsh] 28) := hb8.heap (by repeat (first | (with_reducible refine al_eq _ _ _ ?_; (simp only [size_alloc]; done)) | with_reducible refine al_keep ?_ _ | with_reducible refine dr_keep ?_)) (by simp)
    have hR : w8.heap[w.heap.size + 1 + 1]? = some (.cells #[.int .u64 0, .int .u64 0, .int .u64 0, .int .u64 0, .int .i64 0, .int .i64 0] 28) := hb8.heap (by repeat (first | (with_reducible refine al_eq _ _ _ ?_; (simp only [size_alloc]; done)) | with_reducible refine al_keep ?_ _ | with_reducible refine dr_keep ?_)) (by simp)
    obtain ⟨cA0, cA1, cA2, cA3, cA4, cA5⟩ := c6_of hA
    have zA := lt_of hA
    obtain ⟨cX0, cX1, cX2, cX3, cX4, cX5⟩ := c6_of hX
    have zX := lt_of hX
    obtain ⟨cR0, cR1, cR2, cR3, cR4, cR5⟩ := c6_of hR
    obtain ⟨fR0, fR1, fR2, fR3, fR4, fR5⟩ := f6_of hR
    have zR := lt_of hR
    have HB : Hid (But [] w w8) := Lib.hid ((by repeat (first | with_reducible exact But.refl _ _ | with_reducible refine But.drew ?_ | with_reducible refine But.alloc ?_ _) : But [] w _).trans hb8 (by simp))
    have HA := Lib.hid hA
    have HX := Lib.hid hX
    have HR := Lib.hid hR
    clear hA hX hR hb8
    go_wp2_with fail
    exact bodyPost_ret (v := .tuple #[.agg #[.int .u64 v, .int .u64 m, .int .u64 lo, .int .u64 hi, .int .i64 sl, .int .i64 sh], .bool true]) (by simp [results, Try.results70, go_sem, cR0, cR1, cR2, cR3, cR4, cR5]) rfl (RulePost.mk (⟨⟨v, m⟩, ⟨lo, hi, sl, sh⟩⟩) (by rw [HE.out]; rfl) (fun d hd => by rw [HE.out] at hd; cases hd; rfl) (by
    repeat (first | with_reducible exact HB.out | with_reducible refine But.alloc ?_ _ | (with_reducible refine But.setCell ?_ (.inr ?_) _; rotate_left; (simp only []; omega)))))
  | some n =>
    rw [e0] at C0
    simp only [Option.getD, Option.isSome] at C0
    cases e1 : oneT ⟨⟨v, m⟩, ⟨lo, hi, sl, sh⟩⟩ with
    | none =>
      rw [e1] at C1
      simp only [Option.getD, Option.isSome] at C1
      obtain ⟨y, hy⟩ : ∃ y, IntKind.i64.wrap ((n : Nat) : Int) = y := ⟨_, rfl⟩
      obtain ⟨p, hp⟩ : ∃ p, p = endU1 lo n := ⟨_, rfl⟩
      obtain ⟨r, hr1⟩ : ∃ r, r = endU2 hi n := ⟨_, rfl⟩
      obtain ⟨s, hs⟩ : ∃ s, s = endI1 sl y := ⟨_, rfl⟩
      obtain ⟨t, ht⟩ : ∃ t, t = endI2 sh y := ⟨_, rfl⟩
      have hen : endsA ⟨lo, hi, sl, sh⟩ n = ⟨p, r, s, t⟩ := by rw [ends_eq]; simp only [show toS n = y from hy, hp, hr1, hs, ht]
      have hrg := endsRg hr n
      simp only at hrg
      rw [hen] at hrg
      obtain ⟨⟨⟨gv, gm⟩, ⟨gl, gh, gi, gj⟩⟩, hg⟩ : ∃ g : Sc, (ofT ⟨⟨v, m⟩, ⟨p, r, s, t⟩⟩).getD zeroSc = g := ⟨_, rfl⟩
      obtain ⟨gb, hgb⟩ : ∃ b, (ofT ⟨⟨v, m⟩, ⟨p, r, s, t⟩⟩).isSome = b := ⟨_, rfl⟩
      have C4 := Lib.hid (fun w => r21of_v v m p r gv gm gl gh s t gi gj gb hrg hg hgb w)
      have HE : Hid (otherT ⟨⟨v, m⟩, ⟨lo, hi, sl, sh⟩⟩ ⟨⟨xv, xm⟩, ⟨xlo, xhi, xsl, xsh⟩⟩ = ofT ⟨⟨v, m⟩, ⟨p, r, s, t⟩⟩) := Lib.hid (by unfold otherT; rw [e0]; simp only; rw [if_neg (by rw [e1]; simp), hen])
      have HG := Lib.hid hg
      have HGB := Lib.hid hgb
      have HP := Lib.hid hp
      have HR1 := Lib.hid hr1
      have HS1 := Lib.hid hs
      have HT1 := Lib.hid ht
      clear hg hgb hrg hen hp hr1 hs ht hr hx e0 e1
      go_enter Try.func70, Try.ntmps70
      go_wp2_with fail
      refine (C0.out _).mono ?_
      rintro e w8 ⟨rfl, hb8⟩
      have hA : w8.heap[w.heap.size]? = some (.cells #[.int .u64 v, .int .u64 m, .int .u64 lo, .int .u64 hi, .int .i64 sl, .int .i64 sh] 28) := hb8.heap (by repeat (first | (with_reducible refine al_eq _ _ _ ?_; (simp only [size_alloc]; done)) | with_reducible refine al_keep ?_ _ | with_reducible refine dr_keep ?_)) (by simp)
      have hX : w8.heap[w.heap.size + 1]? = some (.cells #[.int .u64 xv, .int .u64 xm, .int .u64 xlo, .int .u64 xhi, .int .i64 xsl, .int .i64 xsh] 28) := hb8.heap (by repeat (first | (with_reducible refine al_eq _ _ _ ?_; (simp only [size_alloc]; done)) | with_reducible refine al_keep ?_ _ | with_reducible refine dr_keep ?_)) (by simp)
      have hR : w8.heap[w.heap.size + 1 + 1]? = some (.cells #[.int .u64 0, .int .u64 0, .int .u64 0, .int .u64 0, .int .i64 0, .int .i64 0] 28) := hb8.heap (by repeat (first | (with_reducible refine al_eq _ _ _ ?_; (simp only [size_alloc]; done)) | with_reducible refine al_keep ?_ _ | with_reducible refine dr_keep ?_)) (by simp)
      obtain ⟨cA0, cA1, cA2, cA3, cA4, cA5⟩ := c6_of hA
      have zA := lt_of hA
      obtain ⟨cX0, cX1, cX2, cX3, cX4, cX5⟩ := c6_of hX
      have zX := lt_of hX
      obtain ⟨cR0, cR1, cR2, cR3, cR4, cR5⟩ := c6_of hR
      obtain ⟨fR0, fR1, fR2, fR3, fR4, fR5⟩ := f6_of hR
      have zR := lt_of hR
      have HB : Hid (But [] w w8) := Lib.hid ((by repeat (first | with_reducible exact But.refl _ _ | with_reducible refine But.drew ?_ | with_reducible refine But.alloc ?_ _) : But [] w _).trans hb8 (by simp))
      have HA := Lib.hid hA
      have HX := Lib.hid hX
      have HR := Lib.hid hR
      clear hA hX hR hb8
      go_wp2_with fail
      refine (C1.out _).mono ?_
      rintro e w9 ⟨rfl, hb9⟩
      have hA : w9.heap[w.heap.size]? = some (.cells #[.int .u64 v, .int .u64 m, .int .u64 lo, .int .u64 hi, .int .i64 sl, .int .i64 sh] 28) := hb9.heap (HA.out) (by simp)
      have hX : w9.heap[w.heap.size + 1]? = some (.cells #[.int .u64 xv, .int .u64 xm, .int .u64 xlo, .int .u64 xhi, .int .i64 xsl, .int .i64 xsh] 28) := hb9.heap (HX.out) (by simp)
      have hR : w9.heap[w.heap.size + 1 + 1]? = some (.cells #[.int .u64 0, .int .u64 0, .int .u64 0, .int .u64 0, .int .i64 0, .int .i64 0] 28) := hb9.heap (HR.out) (by simp)
      clear zA zX zR
      clear cA0 cA1 cA2 cA3 cA4 cA5 cX0 cX1 cX2 cX3 cX4 cX5 cR0 cR1 cR2 cR3 cR4 cR5
      clear fR0 fR1 fR2 fR3 fR4 fR5
      obtain ⟨cA0, cA1, cA2, cA3, cA4, cA5⟩ := c6_of hA
      have zA := lt_of hA
      obtain ⟨cX0, cX1, cX2, cX3, cX4, cX5⟩ := c6_of hX
      have zX := lt_of hX
      obtain ⟨cR0, cR1, cR2, cR3, cR4, cR5⟩ := c6_of hR
      obtain ⟨fR0, fR1, fR2, fR3, fR4, fR5⟩ := f6_of hR
      have zR := lt_of hR
      have HB : Hid (But [] w w9) := Lib.hid ((HB.out).trans hb9 (by simp))
      have HA := Lib.hid hA
      have HX := Lib.hid hX
      have HR := Lib.hid hR
      clear hA hX hR hb9
      have HZ9 : Hid (w.heap.size + 1 + 1 < w9.heap.size ∧ w.heap.size ≤ w9.heap.size) := Lib.hid ⟨zR, by omega⟩
      go_upto_region 8 with (fail)
      generalize hw : World.alloc w9 _ = w10
      have hA : w10.heap[w.heap.size]? = some (.cells #[.int .u64 v, .int .u64 m, .int .u64 lo, .int .u64 hi, .int .i64 sl, .int .i64 sh] 28) := by rw [← hw]; exact al_keep HA.out _
      have hR : w10.heap[w.heap.size + 1 + 1]? = some (.cells #[.int .u64 0, .int .u64 0, .int .u64 0, .int .u64 0, .int .i64 0, .int .i64 0] 28) := by rw [← hw]; exact al_keep HR.out _
      have hS : w10.heap[w9.heap.size]? = some (.cells #[.int .u64 lo, .int .u64 hi, .int .i64 sl, .int .i64 sh] 26) := by rw [← hw]; exact al_at _ _
      have HB : Hid (But [] w w10) := Lib.hid (by rw [← hw]; exact HB.out.alloc _)
      clear hw
      clear zA zX zR cA0 cA1 cA2 cA3 cA4 cA5 cX0 cX1 cX2 cX3 cX4 cX5 cR0 cR1 cR2 cR3 cR4 cR5 fR0 fR1 fR2 fR3 fR4 fR5
      obtain ⟨cA0, cA1, cA2, cA3, cA4, cA5⟩ := c6_of hA
      have zA := lt_of hA
      obtain ⟨cR0, cR1, cR2, cR3, cR4, cR5⟩ := c6_of hR
      obtain ⟨fR0, fR1, fR2, fR3, fR4, fR5⟩ := f6_of hR
      have zR := lt_of hR
      obtain ⟨cS0, cS1, cS2, cS3⟩ := c4_of hS
      obtain ⟨fS0, fS1, fS2, fS3⟩ := f4_of hS
      have zS := lt_of hS
      have HA := Lib.hid hA
      have HR := Lib.hid hR
      have HS := Lib.hid hS
      clear hA hR hS
      have hz9 := HZ9.out
      go_upto_if 36 with (fail)
      go_cut [] from 37 to 40 (fun wx => wx.heap[w.heap.size]? = some (.cells #[.int .u64 v, .int .u64 m, .int .u64 lo, .int .u64 hi, .int .i64 sl, .int .i64 sh] 28) ∧ wx.heap[w9.heap.size]? = some (.cells #[.int .u64 p, .int .u64 hi, .int .i64 sl, .int .i64 sh] 26) ∧ wx.heap[w.heap.size + 1 + 1]? = some (.cells #[.int .u64 0, .int .u64 0, .int .u64 0, .int .u64 0, .int .i64 0, .int .i64 0] 28) ∧ But [] w wx)
      case first =>
        by_cases h : lo = n
        · have e1 : ((lo : Int) == (n : Int)) = true := by rw [beq_iff_eq]; first | exact h | exact_mod_cast h
          have w1 : IntKind.u64.wrap ((lo : Int) + 1) = (p : Int) := by rw [HP.out]; unfold endU1; rw [if_pos h]; exact toU_wrap _
          clear h
          go_wp2_with fail
          all_goals go_meet
          all_goals exact ⟨sc_keep HA.out (by simp only [ne_eq]; omega), (set1of4 HS.out).1, sc_keep HR.out (by simp only [ne_eq]; omega), HB.out.setCell (.inr (by simp only []; omega)) _⟩
        · have e1 : ((lo : Int) == (n : Int)) = false := by rw [beq_eq_false_iff_ne]; first | exact h | exact_mod_cast h
          have w1 : p = lo := by rw [HP.out]; unfold endU1; rw [if_neg h]
          clear h
          have hS2 : w10.heap[w9.heap.size]? = some (.cells #[.int .u64 p, .int .u64 hi, .int .i64 sl, .int .i64 sh] 26) := by rw [w1]; exact HS.out
          have HS2 := Lib.hid hS2
          clear hS2 w1
          go_wp2_with fail
          all_goals go_meet
          all_goals exact ⟨HA.out, HS2.out, HR.out, HB.out⟩
      case rest =>
        obtain ⟨hA, hS, hR, hb⟩ := hcut
        rename World => wd0
        skip
        have hz9 := HZ9.out
        clear zA zS zR cA0 cA1 cA2 cA3 cA4 cA5 cS0 cS1 cS2 cS3 cR0 cR1 cR2 cR3 cR4 cR5 fS0 fS1 fS2 fS3 fR0 fR1 fR2 fR3 fR4 fR5
        obtain ⟨cA0, cA1, cA2, cA3, cA4, cA5⟩ := c6_of hA
        have zA := lt_of hA
        obtain ⟨cS0, cS1, cS2, cS3⟩ := c4_of hS
        obtain ⟨fS0, fS1, fS2, fS3⟩ := f4_of hS
        have zS := lt_of hS
        obtain ⟨cR0, cR1, cR2, cR3, cR4, cR5⟩ := c6_of hR
        obtain ⟨fR0, fR1, fR2, fR3, fR4, fR5⟩ := f6_of hR
        have zR := lt_of hR
        clear HA HS HR HB
        have HA := Lib.hid hA
        have HS := Lib.hid hS
        have HR := Lib.hid hR
        have HB := Lib.hid hb
        clear hA hS hR hb
        go_upto_if 44 with (fail)
        go_cut [] from 45 to 48 (fun wx => wx.heap[w.heap.size]? = some (.cells #[.int .u64 v, .int .u64 m, .int .u64 lo, .int .u64 hi, .int .i64 sl, .int .i64 sh] 28) ∧ wx.heap[w9.heap.size]? = some (.cells #[.int .u64 p, .int .u64 r, .int .i64 sl, .int .i64 sh] 26) ∧ wx.heap[w.heap.size + 1 + 1]? = some (.cells #[.int .u64 0, .int .u64 0, .int .u64 0, .int .u64 0, .int .i64 0, .int .i64 0] 28) ∧ But [] w wx)
        case first =>
          by_cases h : hi = n
          · have e1 : ((hi : Int) == (n : Int)) = true := by rw [beq_iff_eq]; first | exact h | exact_mod_cast h
            have w1 : IntKind.u64.wrap ((hi : Int) - 1) = (r : Int) := by rw [HR1.out]; unfold endU2; rw [if_pos h]; exact toU_wrap _
            clear h
            go_wp2_with fail
            all_goals go_meet
            all_goals exact ⟨sc_keep HA.out (by simp only [ne_eq]; omega), (set1of4 HS.out).2.1, sc_keep HR.out (by simp only [ne_eq]; omega), HB.out.setCell (.inr (by simp only []; omega)) _⟩
          · have e1 : ((hi : Int) == (n : Int)) = false := by rw [beq_eq_false_iff_ne]; first | exact h | exact_mod_cast h
            have w1 : r = hi := by rw [HR1.out]; unfold endU2; rw [if_neg h]
            clear h
            have hS2 : wd0.heap[w9.heap.size]? = some (.cells #[.int .u64 p, .int .u64 r, .int .i64 sl, .int .i64 sh] 26) := by rw [w1]; exact HS.out
            have HS2 := Lib.hid hS2
            clear hS2 w1
            go_wp2_with fail
            all_goals go_meet
            all_goals exact ⟨HA.out, HS2.out, HR.out, HB.out⟩
        case rest =>
          obtain ⟨hA, hS, hR, hb⟩ := hcut
          rename World => wd1
          skip
          have hz9 := HZ9.out
          clear zA zS zR cA0 cA1 cA2 cA3 cA4 cA5 cS0 cS1 cS2 cS3 cR0 cR1 cR2 cR3 cR4 cR5 fS0 fS1 fS2 fS3 fR0 fR1 fR2 fR3 fR4 fR5
          obtain ⟨cA0, cA1, cA2, cA3, cA4, cA5⟩ := c6_of hA
          have zA := lt_of hA
          obtain ⟨cS0, cS1, cS2, cS3⟩ := c4_of hS
          obtain ⟨fS0, fS1, fS2, fS3⟩ := f4_of hS
          have zS := lt_of hS
          obtain ⟨cR0, cR1, cR2, cR3, cR4, cR5⟩ := c6_of hR
          obtain ⟨fR0, fR1, fR2, fR3, fR4, fR5⟩ := f6_of hR
          have zR := lt_of hR
          clear HA HS HR HB
          have HA := Lib.hid hA
          have HS := Lib.hid hS
          have HR := Lib.hid hR
          have HB := Lib.hid hb
          clear hA hS hR hb
          go_upto_if 53 with (fail)
          go_cut [] from 54 to 57 (fun wx => wx.heap[w.heap.size]? = some (.cells #[.int .u64 v, .int .u64 m, .int .u64 lo, .int .u64 hi, .int .i64 sl, .int .i64 sh] 28) ∧ wx.heap[w9.heap.size]? = some (.cells #[.int .u64 p, .int .u64 r, .int .i64 s, .int .i64 sh] 26) ∧ wx.heap[w.heap.size + 1 + 1]? = some (.cells #[.int .u64 0, .int .u64 0, .int .u64 0, .int .u64 0, .int .i64 0, .int .i64 0] 28) ∧ But [] w wx)
          case first =>
            by_cases h : sl = y
            · have e1 : ((sl : Int) == (y : Int)) = true := by rw [beq_iff_eq]; first | exact h | exact_mod_cast h
              have w1 : IntKind.i64.wrap (sl + 1) = s := by rw [HS1.out]; unfold endI1; rw [if_pos h]
              clear h
              go_wp2_with fail
              all_goals go_meet
              all_goals exact ⟨sc_keep HA.out (by simp only [ne_eq]; omega), (set1of4 HS.out).2.2.1, sc_keep HR.out (by simp only [ne_eq]; omega), HB.out.setCell (.inr (by simp only []; omega)) _⟩
            · have e1 : ((sl : Int) == (y : Int)) = false := by rw [beq_eq_false_iff_ne]; first | exact h | exact_mod_cast h
              have w1 : s = sl := by rw [HS1.out]; unfold endI1; rw [if_neg h]
              clear h
              have hS2 : wd1.heap[w9.heap.size]? = some (.cells #[.int .u64 p, .int .u64 r, .int .i64 s, .int .i64 sh] 26) := by rw [w1]; exact HS.out
              have HS2 := Lib.hid hS2
              clear hS2 w1
              go_wp2_with fail
              all_goals go_meet
              all_goals exact ⟨HA.out, HS2.out, HR.out, HB.out⟩
          case rest =>
            obtain ⟨hA, hS, hR, hb⟩ := hcut
            rename World => wd2
            skip
            have hz9 := HZ9.out
            clear zA zS zR cA0 cA1 cA2 cA3 cA4 cA5 cS0 cS1 cS2 cS3 cR0 cR1 cR2 cR3 cR4 cR5 fS0 fS1 fS2 fS3 fR0 fR1 fR2 fR3 fR4 fR5
            obtain ⟨cA0, cA1, cA2, cA3, cA4, cA5⟩ := c6_of hA
            have zA := lt_of hA
            obtain ⟨cS0, cS1, cS2, cS3⟩ := c4_of hS
            obtain ⟨fS0, fS1, fS2, fS3⟩ := f4_of hS
            have zS := lt_of hS
            obtain ⟨cR0, cR1, cR2, cR3, cR4, cR5⟩ := c6_of hR
            obtain ⟨fR0, fR1, fR2, fR3, fR4, fR5⟩ := f6_of hR
            have zR := lt_of hR
            clear HA HS HR HB
            have HA := Lib.hid hA
            have HS := Lib.hid hS
            have HR := Lib.hid hR
            have HB := Lib.hid hb
            clear hA hS hR hb
            go_upto_if 62 with (fail)
            go_cut [] from 63 to 66 (fun wx => wx.heap[w.heap.size]? = some (.cells #[.int .u64 v, .int .u64 m, .int .u64 lo, .int .u64 hi, .int .i64 sl, .int .i64 sh] 28) ∧ wx.heap[w9.heap.size]? = some (.cells #[.int .u64 p, .int .u64 r, .int .i64 s, .int .i64 t] 26) ∧ wx.heap[w.heap.size + 1 + 1]? = some (.cells #[.int .u64 0, .int .u64 0, .int .u64 0, .int .u64 0, .int .i64 0, .int .i64 0] 28) ∧ But [] w wx)
            case first =>
              by_cases h : sh = y
              · have e1 : ((sh : Int) == (y : Int)) = true := by rw [beq_iff_eq]; first | exact h | exact_mod_cast h
                have w1 : IntKind.i64.wrap (sh - 1) = t := by rw [HT1.out]; unfold endI2; rw [if_pos h]
                clear h
                go_wp2_with fail
                all_goals go_meet
                all_goals exact ⟨sc_keep HA.out (by simp only [ne_eq]; omega), (set1of4 HS.out).2.2.2, sc_keep HR.out (by simp only [ne_eq]; omega), HB.out.setCell (.inr (by simp only []; omega)) _⟩
              · have e1 : ((sh : Int) == (y : Int)) = false := by rw [beq_eq_false_iff_ne]; first | exact h | exact_mod_cast h
                have w1 : t = sh := by rw [HT1.out]; unfold endI2; rw [if_neg h]
                clear h
                have hS2 : wd2.heap[w9.heap.size]? = some (.cells #[.int .u64 p, .int .u64 r, .int .i64 s, .int .i64 t] 26) := by rw [w1]; exact HS.out
                have HS2 := Lib.hid hS2
                clear hS2 w1
                go_wp2_with fail
                all_goals go_meet
                all_goals exact ⟨HA.out, HS2.out, HR.out, HB.out⟩
            case rest =>
              obtain ⟨hA, hS, hR, hb⟩ := hcut
              rename World => wd3
              skip
              have hz9 := HZ9.out
              clear zA zS zR cA0 cA1 cA2 cA3 cA4 cA5 cS0 cS1 cS2 cS3 cR0 cR1 cR2 cR3 cR4 cR5 fS0 fS1 fS2 fS3 fR0 fR1 fR2 fR3 fR4 fR5
              obtain ⟨cA0, cA1, cA2, cA3, cA4, cA5⟩ := c6_of hA
              have zA := lt_of hA
              obtain ⟨cS0, cS1, cS2, cS3⟩ := c4_of hS
              obtain ⟨fS0, fS1, fS2, fS3⟩ := f4_of hS
              have zS := lt_of hS
              obtain ⟨cR0, cR1, cR2, cR3, cR4, cR5⟩ := c6_of hR
              obtain ⟨fR0, fR1, fR2, fR3, fR4, fR5⟩ := f6_of hR
              have zR := lt_of hR
              clear HA HS HR HB
              have HA := Lib.hid hA
              have HS := Lib.hid hS
              have HR := Lib.hid hR
              have HB := Lib.hid hb
              clear hA hS hR hb
              go_wp2_with fail
              refine (C4.out _).mono ?_
              rintro e w14 ⟨rfl, hb14⟩
              have hR : w14.heap[w.heap.size + 1 + 1]? = some (.cells #[.int .u64 0, .int .u64 0, .int .u64 0, .int .u64 0, .int .i64 0, .int .i64 0] 28) := hb14.heap (HR.out) (by simp)
              clear zA zS zR
              clear cA0 cA1 cA2 cA3 cA4 cA5 cS0 cS1 cS2 cS3 cR0 cR1 cR2 cR3 cR4 cR5
              clear fS0 fS1 fS2 fS3 fR0 fR1 fR2 fR3 fR4 fR5
              obtain ⟨cR0, cR1, cR2, cR3, cR4, cR5⟩ := c6_of hR
              obtain ⟨fR0, fR1, fR2, fR3, fR4, fR5⟩ := f6_of hR
              have zR := lt_of hR
              have HB : Hid (But [] w w14) := Lib.hid ((HB.out).trans hb14 (by simp))
              have HR := Lib.hid hR
              clear hR hb14
              go_wp2_with fail
              exact bodyPost_ret (v := .tuple #[.agg #[.int .u64 gv, .int .u64 gm, .int .u64 gl, .int .u64 gh, .int .i64 gi, .int .i64 gj], .bool gb]) (by simp [results, Try.results70, go_sem, cR0, cR1, cR2, cR3, cR4, cR5]) rfl (RulePost.mk (⟨⟨gv, gm⟩, ⟨gl, gh, gi, gj⟩⟩) (by rw [HE.out, HGB.out]; rfl) (fun d hd => by rw [HE.out] at hd; rw [← HG.out, hd]; rfl) (by
    repeat (first | with_reducible exact HB.out | with_reducible refine But.alloc ?_ _ | (with_reducible refine But.setCell ?_ (.inr ?_) _; rotate_left; (simp only []; omega)))))
    | some k =>
      rw [e1] at C1
      simp only [Option.getD, Option.isSome] at C1
      by_cases hk : k = n
      · subst hk
        have HE : Hid (otherT ⟨⟨v, m⟩, ⟨lo, hi, sl, sh⟩⟩ ⟨⟨xv, xm⟩, ⟨xlo, xhi, xsl, xsh⟩⟩ = none) := Lib.hid (by unfold otherT; rw [e0]; simp only; rw [if_pos e1])
        clear e0 e1 hr hx
        go_enter Try.func70, Try.ntmps70
        go_wp2_with fail
        refine (C0.out _).mono ?_
        rintro e w8 ⟨rfl, hb8⟩
        have hA : w8.heap[w.heap.size]? = some (.cells #[.int .u64 v, .int .u64 m, .int .u64 lo, .int .u64 hi, .int .i64 sl, .int .i64 sh] 28) := hb8.heap (by repeat (first | (with_reducible refine al_eq _ _ _ ?_; (simp only [size_alloc]; done)) | with_reducible refine al_keep ?_ _ | with_reducible refine dr_keep ?_)) (by simp)
        have hX : w8.heap[w.heap.size + 1]? = some (.cells #[.int .u64 xv, .int .u64 xm, .int .u64 xlo, .int .u64 xhi, .int .i64 xsl, .int .i64 xsh] 28) := hb8.heap (by repeat (first | (with_reducible refine al_eq _ _ _ ?_; (simp only [size_alloc]; done)) | with_reducible refine al_keep ?_ _ | with_reducible refine dr_keep ?_)) (by simp)
        have hR : w8.heap[w.heap.size + 1 + 1]? = some (.cells #[.int .u64 0, .int .u64 0, .int .u64 0, .int .u64 0, .int .i64 0, .int .i64 0] 28) := hb8.heap (by repeat (first | (with_reducible refine al_eq _ _ _ ?_; (simp only [size_alloc]; done)) | with_reducible refine al_keep ?_ _ | with_reducible refine dr_keep ?_)) (by simp)
        obtain ⟨cA0, cA1, cA2, cA3, cA4, cA5⟩ := c6_of hA
        have zA := lt_of hA
        obtain ⟨cX0, cX1, cX2, cX3, cX4, cX5⟩ := c6_of hX
        have zX := lt_of hX
        obtain ⟨cR0, cR1, cR2, cR3, cR4, cR5⟩ := c6_of hR
        obtain ⟨fR0, fR1, fR2, fR3, fR4, fR5⟩ := f6_of hR
        have zR := lt_of hR
        have HB : Hid (But [] w w8) := Lib.hid ((by repeat (first | with_reducible exact But.refl _ _ | with_reducible refine But.drew ?_ | with_reducible refine But.alloc ?_ _) : But [] w _).trans hb8 (by simp))
        have HA := Lib.hid hA
        have HX := Lib.hid hX
        have HR := Lib.hid hR
        clear hA hX hR hb8
        go_wp2_with fail
        refine (C1.out _).mono ?_
        rintro e w9 ⟨rfl, hb9⟩
        have hA : w9.heap[w.heap.size]? = some (.cells #[.int .u64 v, .int .u64 m, .int .u64 lo, .int .u64 hi, .int .i64 sl, .int .i64 sh] 28) := hb9.heap (HA.out) (by simp)
        have hX : w9.heap[w.heap.size + 1]? = some (.cells #[.int .u64 xv, .int .u64 xm, .int .u64 xlo, .int .u64 xhi, .int .i64 xsl, .int .i64 xsh] 28) := hb9.heap (HX.out) (by simp)
        have hR : w9.heap[w.heap.size + 1 + 1]? = some (.cells #[.int .u64 0, .int .u64 0, .int .u64 0, .int .u64 0, .int .i64 0, .int .i64 0] 28) := hb9.heap (HR.out) (by simp)
        clear zA zX zR
        clear cA0 cA1 cA2 cA3 cA4 cA5 cX0 cX1 cX2 cX3 cX4 cX5 cR0 cR1 cR2 cR3 cR4 cR5
        clear fR0 fR1 fR2 fR3 fR4 fR5
        obtain ⟨cA0, cA1, cA2, cA3, cA4, cA5⟩ := c6_of hA
        have zA := lt_of hA
        obtain ⟨cX0, cX1, cX2, cX3, cX4, cX5⟩ := c6_of hX
        have zX := lt_of hX
        obtain ⟨cR0, cR1, cR2, cR3, cR4, cR5⟩ := c6_of hR
        obtain ⟨fR0, fR1, fR2, fR3, fR4, fR5⟩ := f6_of hR
        have zR := lt_of hR
        have HB : Hid (But [] w w9) := Lib.hid ((HB.out).trans hb9 (by simp))
        have HA := Lib.hid hA
        have HX := Lib.hid hX
        have HR := Lib.hid hR
        clear hA hX hR hb9
        go_wp2_with fail
        exact bodyPost_ret (v := .tuple #[.agg #[.int .u64 0, .int .u64 0, .int .u64 0, .int .u64 0, .int .i64 0, .int .i64 0], .bool false]) (by simp [results, Try.results70, go_sem, cR0, cR1, cR2, cR3, cR4, cR5]) rfl (RulePost.mk (zeroSc) (by rw [HE.out]; rfl) (fun d hd => by rw [HE.out] at hd; cases hd) (by
    repeat (first | with_reducible exact HB.out | with_reducible refine But.alloc ?_ _ | (with_reducible refine But.setCell ?_ (.inr ?_) _; rotate_left; (simp only []; omega)))))
      · have hkn : ((k : Int) == (n : Int)) = false := by rw [beq_eq_false_iff_ne]; omega
        have HK := Lib.hid hk
        clear hk
        obtain ⟨y, hy⟩ : ∃ y, IntKind.i64.wrap ((n : Nat) : Int) = y := ⟨_, rfl⟩
        obtain ⟨p, hp⟩ : ∃ p, p = endU1 lo n := ⟨_, rfl⟩
        obtain ⟨r, hr1⟩ : ∃ r, r = endU2 hi n := ⟨_, rfl⟩
        obtain ⟨s, hs⟩ : ∃ s, s = endI1 sl y := ⟨_, rfl⟩
        obtain ⟨t, ht⟩ : ∃ t, t = endI2 sh y := ⟨_, rfl⟩
        have hen : endsA ⟨lo, hi, sl, sh⟩ n = ⟨p, r, s, t⟩ := by rw [ends_eq]; simp only [show toS n = y from hy, hp, hr1, hs, ht]
        have hrg := endsRg hr n
        simp only at hrg
        rw [hen] at hrg
        obtain ⟨⟨⟨gv, gm⟩, ⟨gl, gh, gi, gj⟩⟩, hg⟩ : ∃ g : Sc, (ofT ⟨⟨v, m⟩, ⟨p, r, s, t⟩⟩).getD zeroSc = g := ⟨_, rfl⟩
        obtain ⟨gb, hgb⟩ : ∃ b, (ofT ⟨⟨v, m⟩, ⟨p, r, s, t⟩⟩).isSome = b := ⟨_, rfl⟩
        have C4 := Lib.hid (fun w => r21of_v v m p r gv gm gl gh s t gi gj gb hrg hg hgb w)
        have HE : Hid (otherT ⟨⟨v, m⟩, ⟨lo, hi, sl, sh⟩⟩ ⟨⟨xv, xm⟩, ⟨xlo, xhi, xsl, xsh⟩⟩ = ofT ⟨⟨v, m⟩, ⟨p, r, s, t⟩⟩) := Lib.hid (by unfold otherT; rw [e0]; simp only; rw [if_neg (by rw [e1]; simpa using HK.out), hen])
        have HG := Lib.hid hg
        have HGB := Lib.hid hgb
        have HP := Lib.hid hp
        have HR1 := Lib.hid hr1
        have HS1 := Lib.hid hs
        have HT1 := Lib.hid ht
        clear hg hgb hrg hen hp hr1 hs ht hr hx e0 e1
        go_enter Try.func70, Try.ntmps70
        go_wp2_with fail
        refine (C0.out _).mono ?_
        rintro e w8 ⟨rfl, hb8⟩
        have hA : w8.heap[w.heap.size]? = some (.cells #[.int .u64 v, .int .u64 m, .int .u64 lo, .int .u64 hi, .int .i64 sl, .int .i64 sh] 28) := hb8.heap (by repeat (first | (with_reducible refine al_eq _ _ _ ?_; (simp only [size_alloc]; done)) | with_reducible refine al_keep ?_ _ | with_reducible refine dr_keep ?_)) (by simp)
        have hX : w8.heap[w.heap.size + 1]? = some (.cells #[.int .u64 xv, .int .u64 xm, .int .u64 xlo, .int .u64 xhi, .int .i64 xsl, .int .i64 xsh] 28) := hb8.heap (by repeat (first | (with_reducible refine al_eq _ _ _ ?_; (simp only [size_alloc]; done)) | with_reducible refine al_keep ?_ _ | with_reducible refine dr_keep ?_)) (by simp)
        have hR : w8.heap[w.heap.size + 1 + 1]? = some (.cells #[.int .u64 0, .int .u64 0, .int .u64 0, .int .u64 0, .int .i64 0, .int .i64 0] 28) := hb8.heap (by repeat (first | (with_reducible refine al_eq _ _ _ ?_; (simp only [size_alloc]; done)) | with_reducible refine al_keep ?_ _ | with_reducible refine dr_keep ?_)) (by simp)
        obtain ⟨cA0, cA1, cA2, cA3, cA4, cA5⟩ := c6_of hA
        have zA := lt_of hA
        obtain ⟨cX0, cX1, cX2, cX3, cX4, cX5⟩ := c6_of hX
        have zX := lt_of hX
        obtain ⟨cR0, cR1, cR2, cR3, cR4, cR5⟩ := c6_of hR
        obtain ⟨fR0, fR1, fR2, fR3, fR4, fR5⟩ := f6_of hR
        have zR := lt_of hR
        have HB : Hid (But [] w w8) := Lib.hid ((by repeat (first | with_reducible exact But.refl _ _ | with_reducible refine But.drew ?_ | with_reducible refine But.alloc ?_ _) : But [] w _).trans hb8 (by simp))
        have HA := Lib.hid hA
        have HX := Lib.hid hX
        have HR := Lib.hid hR
        clear hA hX hR hb8
        go_wp2_with fail
        refine (C1.out _).mono ?_
        rintro e w9 ⟨rfl, hb9⟩
        have hA : w9.heap[w.heap.size]? = some (.cells #[.int .u64 v, .int .u64 m, .int .u64 lo, .int .u64 hi, .int .i64 sl, .int .i64 sh] 28) := hb9.heap (HA.out) (by simp)
        have hX : w9.heap[w.heap.size + 1]? = some (.cells #[.int .u64 xv, .int .u64 xm, .int .u64 xlo, .int .u64 xhi, .int .i64 xsl, .int .i64 xsh] 28) := hb9.heap (HX.out) (by simp)
        have hR : w9.heap[w.heap.size + 1 + 1]? = some (.cells #[.int .u64 0, .int .u64 0, .int .u64 0, .int .u64 0, .int .i64 0, .int .i64 0] 28) := hb9.heap (HR.out) (by simp)
        clear zA zX zR
        clear cA0 cA1 cA2 cA3 cA4 cA5 cX0 cX1 cX2 cX3 cX4 cX5 cR0 cR1 cR2 cR3 cR4 cR5
        clear fR0 fR1 fR2 fR3 fR4 fR5
        obtain ⟨cA0, cA1, cA2, cA3, cA4, cA5⟩ := c6_of hA
        have zA := lt_of hA
        obtain ⟨cX0, cX1, cX2, cX3, cX4, cX5⟩ := c6_of hX
        have zX := lt_of hX
        obtain ⟨cR0, cR1, cR2, cR3, cR4, cR5⟩ := c6_of hR
        obtain ⟨fR0, fR1, fR2, fR3, fR4, fR5⟩ := f6_of hR
        have zR := lt_of hR
        have HB : Hid (But [] w w9) := Lib.hid ((HB.out).trans hb9 (by simp))
        have HA := Lib.hid hA
        have HX := Lib.hid hX
        have HR := Lib.hid hR
        clear hA hX hR hb9
        have HZ9 : Hid (w.heap.size + 1 + 1 < w9.heap.size ∧ w.heap.size ≤ w9.heap.size) := Lib.hid ⟨zR, by omega⟩
        go_upto_region 8 with (fail)
        generalize hw : World.alloc w9 _ = w10
        have hA : w10.heap[w.heap.size]? = some (.cells #[.int .u64 v, .int .u64 m, .int .u64 lo, .int .u64 hi, .int .i64 sl, .int .i64 sh] 28) := by rw [← hw]; exact al_keep HA.out _
        have hR : w10.heap[w.heap.size + 1 + 1]? = some (.cells #[.int .u64 0, .int .u64 0, .int .u64 0, .int .u64 0, .int .i64 0, .int .i64 0] 28) := by rw [← hw]; exact al_keep HR.out _
        have hS : w10.heap[w9.heap.size]? = some (.cells #[.int .u64 lo, .int .u64 hi, .int .i64 sl, .int .i64 sh] 26) := by rw [← hw]; exact al_at _ _
        have HB : Hid (But [] w w10) := Lib.hid (by rw [← hw]; exact HB.out.alloc _)
        clear hw
        clear zA zX zR cA0 cA1 cA2 cA3 cA4 cA5 cX0 cX1 cX2 cX3 cX4 cX5 cR0 cR1 cR2 cR3 cR4 cR5 fR0 fR1 fR2 fR3 fR4 fR5
        obtain ⟨cA0, cA1, cA2, cA3, cA4, cA5⟩ := c6_of hA
        have zA := lt_of hA
        obtain ⟨cR0, cR1, cR2, cR3, cR4, cR5⟩ := c6_of hR
        obtain ⟨fR0, fR1, fR2, fR3, fR4, fR5⟩ := f6_of hR
        have zR := lt_of hR
        obtain ⟨cS0, cS1, cS2, cS3⟩ := c4_of hS
        obtain ⟨fS0, fS1, fS2, fS3⟩ := f4_of hS
        have zS := lt_of hS
        have HA := Lib.hid hA
        have HR := Lib.hid hR
        have HS := Lib.hid hS
        clear hA hR hS
        have hz9 := HZ9.out
        go_upto_if 36 with (fail)
        go_cut [] from 37 to 40 (fun wx => wx.heap[w.heap.size]? = some (.cells #[.int .u64 v, .int .u64 m, .int .u64 lo, .int .u64 hi, .int .i64 sl, .int .i64 sh] 28) ∧ wx.heap[w9.heap.size]? = some (.cells #[.int .u64 p, .int .u64 hi, .int .i64 sl, .int .i64 sh] 26) ∧ wx.heap[w.heap.size + 1 + 1]? = some (.cells #[.int .u64 0, .int .u64 0, .int .u64 0, .int .u64 0, .int .i64 0, .int .i64 0] 28) ∧ But [] w wx)
        case first =>
          by_cases h : lo = n
          · have e1 : ((lo : Int) == (n : Int)) = true := by rw [beq_iff_eq]; first | exact h | exact_mod_cast h
            have w1 : IntKind.u64.wrap ((lo : Int) + 1) = (p : Int) := by rw [HP.out]; unfold endU1; rw [if_pos h]; exact toU_wrap _
            clear h
            go_wp2_with fail
            all_goals go_meet
            all_goals exact ⟨sc_keep HA.out (by simp only [ne_eq]; omega), (set1of4 HS.out).1, sc_keep HR.out (by simp only [ne_eq]; omega), HB.out.setCell (.inr (by simp only []; omega)) _⟩
          · have e1 : ((lo : Int) == (n : Int)) = false := by rw [beq_eq_false_iff_ne]; first | exact h | exact_mod_cast h
            have w1 : p = lo := by rw [HP.out]; unfold endU1; rw [if_neg h]
            clear h
            have hS2 : w10.heap[w9.heap.size]? = some (.cells #[.int .u64 p, .int .u64 hi, .int .i64 sl, .int .i64 sh] 26) := by rw [w1]; exact HS.out
            have HS2 := Lib.hid hS2
            clear hS2 w1
            go_wp2_with fail
            all_goals go_meet
            all_goals exact ⟨HA.out, HS2.out, HR.out, HB.out⟩
        case rest =>
          obtain ⟨hA, hS, hR, hb⟩ := hcut
          rename World => wd0
          skip
          have hz9 := HZ9.out
          clear zA zS zR cA0 cA1 cA2 cA3 cA4 cA5 cS0 cS1 cS2 cS3 cR0 cR1 cR2 cR3 cR4 cR5 fS0 fS1 fS2 fS3 fR0 fR1 fR2 fR3 fR4 fR5
          obtain ⟨cA0, cA1, cA2, cA3, cA4, cA5⟩ := c6_of hA
          have zA := lt_of hA
          obtain ⟨cS0, cS1, cS2, cS3⟩ := c4_of hS
          obtain ⟨fS0, fS1, fS2, fS3⟩ := f4_of hS
          have zS := lt_of hS
          obtain ⟨cR0, cR1, cR2, cR3, cR4, cR5⟩ := c6_of hR
          obtain ⟨fR0, fR1, fR2, fR3, fR4, fR5⟩ := f6_of hR
          have zR := lt_of hR
          clear HA HS HR HB
          have HA := Lib.hid hA
          have HS := Lib.hid hS
          have HR := Lib.hid hR
          have HB := Lib.hid hb
          clear hA hS hR hb
          go_upto_if 44 with (fail)
          go_cut [] from 45 to 48 (fun wx => wx.heap[w.heap.size]? = some (.cells #[.int .u64 v, .int .u64 m, .int .u64 lo, .int .u64 hi, .int .i64 sl, .int .i64 sh] 28) ∧ wx.heap[w9.heap.size]? = some (.cells #[.int .u64 p, .int .u64 r, .int .i64 sl, .int .i64 sh] 26) ∧ wx.heap[w.heap.size + 1 + 1]? = some (.cells #[.int .u64 0, .int .u64 0, .int .u64 0, .int .u64 0, .int .i64 0, .int .i64 0] 28) ∧ But [] w wx)
          case first =>
            by_cases h : hi = n
            · have e1 : ((hi : Int) == (n : Int)) = true := by rw [beq_iff_eq]; first | exact h | exact_mod_cast h
              have w1 : IntKind.u64.wrap ((hi : Int) - 1) = (r : Int) := by rw [HR1.out]; unfold endU2; rw [if_pos h]; exact toU_wrap _
              clear h
              go_wp2_with fail
              all_goals go_meet
              all_goals exact ⟨sc_keep HA.out (by simp only [ne_eq]; omega), (set1of4 HS.out).2.1, sc_keep HR.out (by simp only [ne_eq]; omega), HB.out.setCell (.inr (by simp only []; omega)) _⟩
            · have e1 : ((hi : Int) == (n : Int)) = false := by rw [beq_eq_false_iff_ne]; first | exact h | exact_mod_cast h
              have w1 : r = hi := by rw [HR1.out]; unfold endU2; rw [if_neg h]
              clear h
              have hS2 : wd0.heap[w9.heap.size]? = some (.cells #[.int .u64 p, .int .u64 r, .int .i64 sl, .int .i64 sh] 26) := by rw [w1]; exact HS.out
              have HS2 := Lib.hid hS2
              clear hS2 w1
              go_wp2_with fail
              all_goals go_meet
              all_goals exact ⟨HA.out, HS2.out, HR.out, HB.out⟩
          case rest =>
            obtain ⟨hA, hS, hR, hb⟩ := hcut
            rename World => wd1
            skip
            have hz9 := HZ9.out
            clear zA zS zR cA0 cA1 cA2 cA3 cA4 cA5 cS0 cS1 cS2 cS3 cR0 cR1 cR2 cR3 cR4 cR5 fS0 fS1 fS2 fS3 fR0 fR1 fR2 fR3 fR4 fR5
            obtain ⟨cA0, cA1, cA2, cA3, cA4, cA5⟩ := c6_of hA
            have zA := lt_of hA
            obtain ⟨cS0, cS1, cS2, cS3⟩ := c4_of hS
            obtain ⟨fS0, fS1, fS2, fS3⟩ := f4_of hS
            have zS := lt_of hS
            obtain ⟨cR0, cR1, cR2, cR3, cR4, cR5⟩ := c6_of hR
            obtain ⟨fR0, fR1, fR2, fR3, fR4, fR5⟩ := f6_of hR
            have zR := lt_of hR
            clear HA HS HR HB
            have HA := Lib.hid hA
            have HS := Lib.hid hS
            have HR := Lib.hid hR
            have HB := Lib.hid hb
            clear hA hS hR hb
            go_upto_if 53 with (fail)
            go_cut [] from 54 to 57 (fun wx => wx.heap[w.heap.size]? = some (.cells #[.int .u64 v, .int .u64 m, .int .u64 lo, .int .u64 hi, .int .i64 sl, .int .i64 sh] 28) ∧ wx.heap[w9.heap.size]? = some (.cells #[.int .u64 p, .int .u64 r, .int .i64 s, .int .i64 sh] 26) ∧ wx.heap[w.heap.size + 1 + 1]? = some (.cells #[.int .u64 0, .int .u64 0, .int .u64 0, .int .u64 0, .int .i64 0, .int .i64 0] 28) ∧ But [] w wx)
            case first =>
              by_cases h : sl = y
              · have e1 : ((sl : Int) == (y : Int)) = true := by rw [beq_iff_eq]; first | exact h | exact_mod_cast h
                have w1 : IntKind.i64.wrap (sl + 1) = s := by rw [HS1.out]; unfold endI1; rw [if_pos h]
                clear h
                go_wp2_with fail
                all_goals go_meet
                all_goals exact ⟨sc_keep HA.out (by simp only [ne_eq]; omega), (set1of4 HS.out).2.2.1, sc_keep HR.out (by simp only [ne_eq]; omega), HB.out.setCell (.inr (by simp only []; omega)) _⟩
              · have e1 : ((sl : Int) == (y : Int)) = false := by rw [beq_eq_false_iff_ne]; first | exact h | exact_mod_cast h
                have w1 : s = sl := by rw [HS1.out]; unfold endI1; rw [if_neg h]
                clear h
                have hS2 : wd1.heap[w9.heap.size]? = some (.cells #[.int .u64 p, .int .u64 r, .int .i64 s, .int .i64 sh] 26) := by rw [w1]; exact HS.out
                have HS2 := Lib.hid hS2
                clear hS2 w1
                go_wp2_with fail
                all_goals go_meet
                all_goals exact ⟨HA.out, HS2.out, HR.out, HB.out⟩
            case rest =>
              obtain ⟨hA, hS, hR, hb⟩ := hcut
              rename World => wd2
              skip
              have hz9 := HZ9.out
              clear zA zS zR cA0 cA1 cA2 cA3 cA4 cA5 cS0 cS1 cS2 cS3 cR0 cR1 cR2 cR3 cR4 cR5 fS0 fS1 fS2 fS3 fR0 fR1 fR2 fR3 fR4 fR5
              obtain ⟨cA0, cA1, cA2, cA3, cA4, cA5⟩ := c6_of hA
              have zA := lt_of hA
              obtain ⟨cS0, cS1, cS2, cS3⟩ := c4_of hS
              obtain ⟨fS0, fS1, fS2, fS3⟩ := f4_of hS
              have zS := lt_of hS
              obtain ⟨cR0, cR1, cR2, cR3, cR4, cR5⟩ := c6_of hR
              obtain ⟨fR0, fR1, fR2, fR3, fR4, fR5⟩ := f6_of hR
              have zR := lt_of hR
              clear HA HS HR HB
              have HA := Lib.hid hA
              have HS := Lib.hid hS
              have HR := Lib.hid hR
              have HB := Lib.hid hb
              clear hA hS hR hb
              go_upto_if 62 with (fail)
              go_cut [] from 63 to 66 (fun wx => wx.heap[w.heap.size]? = some (.cells #[.int .u64 v, .int .u64 m, .int .u64 lo, .int .u64 hi, .int .i64 sl, .int .i64 sh] 28) ∧ wx.heap[w9.heap.size]? = some (.cells #[.int .u64 p, .int .u64 r, .int .i64 s, .int .i64 t] 26) ∧ wx.heap[w.heap.size + 1 + 1]? = some (.cells #[.int .u64 0, .int .u64 0, .int .u64 0, .int .u64 0, .int .i64 0, .int .i64 0] 28) ∧ But [] w wx)
              case first =>
                by_cases h : sh = y
                · have e1 : ((sh : Int) == (y : Int)) = true := by rw [beq_iff_eq]; first | exact h | exact_mod_cast h
                  have w1 : IntKind.i64.wrap (sh - 1) = t := by rw [HT1.out]; unfold endI2; rw [if_pos h]
                  clear h
                  go_wp2_with fail
                  all_goals go_meet
                  all_goals exact ⟨sc_keep HA.out (by simp only [ne_eq]; omega), (set1of4 HS.out).2.2.2, sc_keep HR.out (by simp only [ne_eq]; omega), HB.out.setCell (.inr (by simp only []; omega)) _⟩
                · have e1 : ((sh : Int) == (y : Int)) = false := by rw [beq_eq_false_iff_ne]; first | exact h | exact_mod_cast h
                  have w1 : t = sh := by rw [HT1.out]; unfold endI2; rw [if_neg h]
                  clear h
                  have hS2 : wd2.heap[w9.heap.size]? = some (.cells #[.int .u64 p, .int .u64 r, .int .i64 s, .int .i64 t] 26) := by rw [w1]; exact HS.out
                  have HS2 := Lib.hid hS2
                  clear hS2 w1
                  go_wp2_with fail
                  all_goals go_meet
                  all_goals exact ⟨HA.out, HS2.out, HR.out, HB.out⟩
              case rest =>
                obtain ⟨hA, hS, hR, hb⟩ := hcut
                rename World => wd3
                skip
                have hz9 := HZ9.out
                clear zA zS zR cA0 cA1 cA2 cA3 cA4 cA5 cS0 cS1 cS2 cS3 cR0 cR1 cR2 cR3 cR4 cR5 fS0 fS1 fS2 fS3 fR0 fR1 fR2 fR3 fR4 fR5
                obtain ⟨cA0, cA1, cA2, cA3, cA4, cA5⟩ := c6_of hA
                have zA := lt_of hA
                obtain ⟨cS0, cS1, cS2, cS3⟩ := c4_of hS
                obtain ⟨fS0, fS1, fS2, fS3⟩ := f4_of hS
                have zS := lt_of hS
                obtain ⟨cR0, cR1, cR2, cR3, cR4, cR5⟩ := c6_of hR
                obtain ⟨fR0, fR1, fR2, fR3, fR4, fR5⟩ := f6_of hR
                have zR := lt_of hR
                clear HA HS HR HB
                have HA := Lib.hid hA
                have HS := Lib.hid hS
                have HR := Lib.hid hR
                have HB := Lib.hid hb
                clear hA hS hR hb
                go_wp2_with fail
                refine (C4.out _).mono ?_
                rintro e w14 ⟨rfl, hb14⟩
                have hR : w14.heap[w.heap.size + 1 + 1]? = some (.cells #[.int .u64 0, .int .u64 0, .int .u64 0, .int .u64 0, .int .i64 0, .int .i64 0] 28) := hb14.heap (HR.out) (by simp)
                clear zA zS zR
                clear cA0 cA1 cA2 cA3 cA4 cA5 cS0 cS1 cS2 cS3 cR0 cR1 cR2 cR3 cR4 cR5
                clear fS0 fS1 fS2 fS3 fR0 fR1 fR2 fR3 fR4 fR5
                obtain ⟨cR0, cR1, cR2, cR3, cR4, cR5⟩ := c6_of hR
                obtain ⟨fR0, fR1, fR2, fR3, fR4, fR5⟩ := f6_of hR
                have zR := lt_of hR
                have HB : Hid (But [] w w14) := Lib.hid ((HB.out).trans hb14 (by simp))
                have HR := Lib.hid hR
                clear hR hb14
                go_wp2_with fail
                exact bodyPost_ret (v := .tuple #[.agg #[.int .u64 gv, .int .u64 gm, .int .u64 gl, .int .u64 gh, .int .i64 gi, .int .i64 gj], .bool gb]) (by simp [results, Try.results70, go_sem, cR0, cR1, cR2, cR3, cR4, cR5]) rfl (RulePost.mk (⟨⟨gv, gm⟩, ⟨gl, gh, gi, gj⟩⟩) (by rw [HE.out, HGB.out]; rfl) (fun d hd => by rw [HE.out] at hd; rw [← HG.out, hd]; rfl) (by
    repeat (first | with_reducible exact HB.out | with_reducible refine But.alloc ?_ _ | (with_reducible refine But.setCell ?_ (.inr ?_) _; rotate_left; (simp only []; omega)))))
end Go.Proofs.Ytmbmmcippglfoaa.M
