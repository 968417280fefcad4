/-
  refine.below, above; lower, upper, less, more: what they make.
-/
import Derived.Test.YtmbmmcippglfoaaScC
namespace Go.Proofs.Ytmbmmcippglfoaa.M
open Go.RowKit Go.Shelf
set_option linter.unusedVariables false
set_option linter.unusedSectionVars false
set_option linter.unusedSimpArgs false

theorem wrap_toU (n : Int) : IntKind.u64.wrap n = ((toU n : Nat) : Int) := toU_wrap n
set_option maxRecDepth 100000 in
set_option maxHeartbeats 4000000 in
theorem beU_c (n : Nat) (q : Bool) (w : World) (h0 : n < 18446744073709551616) : Calls Try.prog 92 #[.int .u64 n, .bool q] w fun e w' => e = .returned (.tuple #[.int .u64 (beU q n), .bool (beUo q n)]) ∧ w = w' := by
  cases q with
  | true =>
    clear h0
    go_enter Try.func92, Try.ntmps92
    go_wp2
    go_ret2
    exact ⟨rfl, rfl⟩
  | false =>
    obtain ⟨m, hm⟩ : ∃ m, m = toU ((n : Int) - 1) := ⟨_, rfl⟩
    have hw : IntKind.u64.wrap ((n : Int) - 1) = (m : Int) := by rw [hm]; exact toU_wrap _
    have HE : Hid ((beU false n) = m ∧ beUo false n = decide (m < n)) := Lib.hid ⟨hm.symm, by
      show decide (0 < n) = _
      rw [decide_eq_decide]
      unfold toU at hm; omega⟩
    clear hm h0
    go_enter Try.func92, Try.ntmps92
    go_wp2
    go_ret2
    exact ⟨by rw [HE.out.1, HE.out.2]; first | done | rfl, rfl⟩
set_option maxRecDepth 100000 in
set_option maxHeartbeats 4000000 in
theorem abU_c (n : Nat) (q : Bool) (w : World) (h0 : n < 18446744073709551616) : Calls Try.prog 94 #[.int .u64 n, .bool q] w fun e w' => e = .returned (.tuple #[.int .u64 (abU q n), .bool (abUo q n)]) ∧ w = w' := by
  cases q with
  | true =>
    clear h0
    go_enter Try.func94, Try.ntmps94
    go_wp2
    go_ret2
    exact ⟨rfl, rfl⟩
  | false =>
    obtain ⟨m, hm⟩ : ∃ m, m = toU ((n : Int) + 1) := ⟨_, rfl⟩
    have hw : IntKind.u64.wrap ((n : Int) + 1) = (m : Int) := by rw [hm]; exact toU_wrap _
    have HE : Hid ((abU false n) = m ∧ abUo false n = decide (n < m)) := Lib.hid ⟨hm.symm, by
      show decide (n < 18446744073709551615) = _
      rw [decide_eq_decide]
      unfold toU at hm; omega⟩
    clear hm h0
    go_enter Try.func94, Try.ntmps94
    go_wp2
    go_ret2
    exact ⟨by rw [HE.out.1, HE.out.2]; first | done | rfl, rfl⟩
set_option maxRecDepth 100000 in
set_option maxHeartbeats 4000000 in
theorem beI_c (n : Int) (q : Bool) (w : World) (h0 : -9223372036854775808 ≤ n) (h1 : n ≤ 9223372036854775807) : Calls Try.prog 96 #[.int .i64 n, .bool q] w fun e w' => e = .returned (.tuple #[.int .i64 (beI q n), .bool (beIo q n)]) ∧ w = w' := by
  cases q with
  | true =>
    clear h0 h1
    go_enter Try.func96, Try.ntmps96
    go_wp2
    go_ret2
    exact ⟨rfl, rfl⟩
  | false =>
    obtain ⟨m, hm⟩ : ∃ m, m = IntKind.i64.wrap (n - 1) := ⟨_, rfl⟩
    have hw : IntKind.i64.wrap (n - 1) = m := hm.symm
    have HE : Hid ((beI false n) = m ∧ beIo false n = decide (m < n)) := Lib.hid ⟨hm.symm, by
      show decide (-9223372036854775808 < n) = _
      rw [decide_eq_decide]
      rw [IntKind.wrap_i64] at hm; omega⟩
    clear hm h0 h1
    go_enter Try.func96, Try.ntmps96
    go_wp2
    go_ret2
    exact ⟨by rw [HE.out.1, HE.out.2]; first | done | rfl, rfl⟩
set_option maxRecDepth 100000 in
set_option maxHeartbeats 4000000 in
theorem abI_c (n : Int) (q : Bool) (w : World) (h0 : -9223372036854775808 ≤ n) (h1 : n ≤ 9223372036854775807) : Calls Try.prog 98 #[.int .i64 n, .bool q] w fun e w' => e = .returned (.tuple #[.int .i64 (abI q n), .bool (abIo q n)]) ∧ w = w' := by
  cases q with
  | true =>
    clear h0 h1
    go_enter Try.func98, Try.ntmps98
    go_wp2
    go_ret2
    exact ⟨rfl, rfl⟩
  | false =>
    obtain ⟨m, hm⟩ : ∃ m, m = IntKind.i64.wrap (n + 1) := ⟨_, rfl⟩
    have hw : IntKind.i64.wrap (n + 1) = m := hm.symm
    have HE : Hid ((abI false n) = m ∧ abIo false n = decide (n < m)) := Lib.hid ⟨hm.symm, by
      show decide (n < 9223372036854775807) = _
      rw [decide_eq_decide]
      rw [IntKind.wrap_i64] at hm; omega⟩
    clear hm h0 h1
    go_enter Try.func98, Try.ntmps98
    go_wp2
    go_ret2
    exact ⟨by rw [HE.out.1, HE.out.2]; first | done | rfl, rfl⟩
set_option maxRecDepth 100000 in
set_option maxHeartbeats 4000000 in
theorem lower1_c (v m lo hi xv xm xlo xhi : Nat) (sl sh xsl xsh : Int) (q : Bool) (k : Nat) (w : World) (hr : Rg (lowA q ⟨⟨v, m⟩, ⟨lo, hi, sl, sh⟩⟩ ⟨⟨xv, xm⟩, ⟨xlo, xhi, xsl, xsh⟩⟩)) (hx : xhi < 18446744073709551616) (hq : w.cell? ⟨k, 0, none⟩ = some (.bool q)) : Calls Try.prog 91 #[.agg #[.int .u64 v, .int .u64 m, .int .u64 lo, .int .u64 hi, .int .i64 sl, .int .i64 sh], .agg #[.int .u64 xv, .int .u64 xm, .int .u64 xlo, .int .u64 xhi, .int .i64 xsl, .int .i64 xsh], .pointer (some ⟨k, 0, none⟩)] w (RulePost (lowT q ⟨⟨v, m⟩, ⟨lo, hi, sl, sh⟩⟩ ⟨⟨xv, xm⟩, ⟨xlo, xhi, xsl, xsh⟩⟩) w) := by
  have C0 := Lib.hid (fun w => beU_c xhi q w hx)
  obtain ⟨n, hn⟩ : ∃ n, n = beU q xhi := ⟨_, rfl⟩
  obtain ⟨is, his⟩ : ∃ b, b = beUo q xhi := ⟨_, rfl⟩
  rw [← hn, ← his] at C0
  obtain ⟨p, hp⟩ : ∃ p, p = min hi n := ⟨_, rfl⟩
  have hpm : min (hi : Int) (n : Int) = (p : Int) := by rw [hp]; first | done | omega
  have hpr : lowA q ⟨⟨v, m⟩, ⟨lo, hi, sl, sh⟩⟩ ⟨⟨xv, xm⟩, ⟨xlo, xhi, xsl, xsh⟩⟩ = ⟨⟨v, m⟩, ⟨lo, p, sl, sh⟩⟩ := by simp only [lowA, hp, hn]
  rw [hpr] at hr
  obtain ⟨⟨⟨gv, gm⟩, ⟨gl, gh, gi, gj⟩⟩, hg⟩ : ∃ g : Sc, (ofT ⟨⟨v, m⟩, ⟨lo, p, sl, sh⟩⟩).getD zeroSc = g := ⟨_, rfl⟩
  obtain ⟨gb, hgb⟩ : ∃ b, (ofT ⟨⟨v, m⟩, ⟨lo, p, sl, sh⟩⟩).isSome = b := ⟨_, rfl⟩
  have C1 : Hid (∀ w, Calls Try.prog 88 #[.agg #[.int .u64 v, .int .u64 m, .int .u64 lo, .int .u64 p, .int .i64 sl, .int .i64 sh], .agg #[.int .u64 lo, .int .u64 p, .int .i64 sl, .int .i64 sh]] w fun e w' => e = .returned (.tuple #[.agg #[.int .u64 gv, .int .u64 gm, .int .u64 gl, .int .u64 gh, .int .i64 gi, .int .i64 gj], .bool gb]) ∧ But [] w w') := Lib.hid (fun w => by
    have h := bounded_c v m lo p sl sh lo p sl sh w hr
    rw [hg, hgb] at h
    exact h)
  have HE : Hid (lowT q ⟨⟨v, m⟩, ⟨lo, hi, sl, sh⟩⟩ ⟨⟨xv, xm⟩, ⟨xlo, xhi, xsl, xsh⟩⟩ = if is then ofT ⟨⟨v, m⟩, ⟨lo, p, sl, sh⟩⟩ else none) := Lib.hid (by unfold lowT; rw [hpr, his])
  have HG := Lib.hid hg
  have HGB := Lib.hid hgb
  have k1 : k < w.heap.size := cell_lt hq
  have k2 : k < w.heap.size + 1 := by omega
  have k3 : k < w.heap.size + 1 + 1 := by omega
  clear hr hx hn his hp hpr hg hgb
  cases is with
  | true =>
    go_enter Try.func91, Try.ntmps91
    go_wp2_with fail
    refine (C0.out _).mono ?_
    rintro e w7 ⟨rfl, rfl⟩
    go_wp2_with fail
    refine (C1.out _).mono ?_
    rintro e w8 ⟨rfl, hb8⟩
    have hR : w8.heap[w.heap.size + 1 + 1]? = some (.cells #[.int .u64 0, .int .u64 0, .int .u64 0, .int .u64 0, .int .i64 0, .int .i64 0] 28) := hb8.heap (by repeat (first | (with_reducible refine al_eq _ _ _ ?_; (simp only [size_alloc]; done)) | with_reducible refine al_keep ?_ _ | with_reducible refine dr_keep ?_)) (by simp)
    obtain ⟨cR0, cR1, cR2, cR3, cR4, cR5⟩ := c6_of hR
    obtain ⟨fR0, fR1, fR2, fR3, fR4, fR5⟩ := f6_of hR
    have zR := lt_of hR
    have HB : Hid (But [] w w8) := Lib.hid ((by repeat (first | with_reducible exact But.refl _ _ | with_reducible refine But.drew ?_ | with_reducible refine But.alloc ?_ _) : But [] w _).trans hb8 (by simp))
    have HR := Lib.hid hR
    clear hR hb8
    go_upto_region 4 with (fail)
    generalize hw : World.alloc w8 _ = w9
    have hR : w9.heap[w.heap.size + 1 + 1]? = some (.cells #[.int .u64 0, .int .u64 0, .int .u64 0, .int .u64 0, .int .i64 0, .int .i64 0] 28) := by rw [← hw]; exact al_keep HR.out _
    have hT : w9.heap[w8.heap.size]? = some (.cells #[.int .u64 gv, .int .u64 gm, .int .u64 gl, .int .u64 gh, .int .i64 gi, .int .i64 gj] 28) := by rw [← hw]; exact al_at _ _
    have HB : Hid (But [] w w9) := Lib.hid (by rw [← hw]; exact HB.out.alloc _)
    clear hw
    clear zR cR0 cR1 cR2 cR3 cR4 cR5 fR0 fR1 fR2 fR3 fR4 fR5
    obtain ⟨cR0, cR1, cR2, cR3, cR4, cR5⟩ := c6_of hR
    obtain ⟨fR0, fR1, fR2, fR3, fR4, fR5⟩ := f6_of hR
    have zR := lt_of hR
    obtain ⟨cT0, cT1, cT2, cT3, cT4, cT5⟩ := c6_of hT
    have zT := lt_of hT
    have HR := Lib.hid hR
    have HT := Lib.hid hT
    clear hR hT
    go_wp2_with fail
    exact bodyPost_ret (v := .tuple #[.agg #[.int .u64 gv, .int .u64 gm, .int .u64 gl, .int .u64 gh, .int .i64 gi, .int .i64 gj], .bool gb]) (by simp [results, Try.results91, go_sem, cR0, cR1, cR2, cR3, cR4, cR5]) rfl (RulePost.mk (⟨⟨gv, gm⟩, ⟨gl, gh, gi, gj⟩⟩) (by rw [HE.out, if_pos trivial, HGB.out]; rfl) (fun d hd => by rw [HE.out, if_pos trivial] at hd; rw [← HG.out, hd]; rfl) (by
    repeat (first | with_reducible exact HB.out | with_reducible refine But.alloc ?_ _ | (with_reducible refine But.setCell ?_ (.inr ?_) _; rotate_left; (simp only []; omega)))))
  | false =>
    go_enter Try.func91, Try.ntmps91
    go_wp2_with fail
    refine (C0.out _).mono ?_
    rintro e w7 ⟨rfl, rfl⟩
    go_wp2_with fail
    refine (C1.out _).mono ?_
    rintro e w8 ⟨rfl, hb8⟩
    have hR : w8.heap[w.heap.size + 1 + 1]? = some (.cells #[.int .u64 0, .int .u64 0, .int .u64 0, .int .u64 0, .int .i64 0, .int .i64 0] 28) := hb8.heap (by repeat (first | (with_reducible refine al_eq _ _ _ ?_; (simp only [size_alloc]; done)) | with_reducible refine al_keep ?_ _ | with_reducible refine dr_keep ?_)) (by simp)
    obtain ⟨cR0, cR1, cR2, cR3, cR4, cR5⟩ := c6_of hR
    obtain ⟨fR0, fR1, fR2, fR3, fR4, fR5⟩ := f6_of hR
    have zR := lt_of hR
    have HB : Hid (But [] w w8) := Lib.hid ((by repeat (first | with_reducible exact But.refl _ _ | with_reducible refine But.drew ?_ | with_reducible refine But.alloc ?_ _) : But [] w _).trans hb8 (by simp))
    have HR := Lib.hid hR
    clear hR hb8
    go_upto_region 4 with (fail)
    generalize hw : World.alloc w8 _ = w9
    have hR : w9.heap[w.heap.size + 1 + 1]? = some (.cells #[.int .u64 0, .int .u64 0, .int .u64 0, .int .u64 0, .int .i64 0, .int .i64 0] 28) := by rw [← hw]; exact al_keep HR.out _
    have hT : w9.heap[w8.heap.size]? = some (.cells #[.int .u64 gv, .int .u64 gm, .int .u64 gl, .int .u64 gh, .int .i64 gi, .int .i64 gj] 28) := by rw [← hw]; exact al_at _ _
    have HB : Hid (But [] w w9) := Lib.hid (by rw [← hw]; exact HB.out.alloc _)
    clear hw
    clear zR cR0 cR1 cR2 cR3 cR4 cR5 fR0 fR1 fR2 fR3 fR4 fR5
    obtain ⟨cR0, cR1, cR2, cR3, cR4, cR5⟩ := c6_of hR
    obtain ⟨fR0, fR1, fR2, fR3, fR4, fR5⟩ := f6_of hR
    have zR := lt_of hR
    obtain ⟨cT0, cT1, cT2, cT3, cT4, cT5⟩ := c6_of hT
    have zT := lt_of hT
    have HR := Lib.hid hR
    have HT := Lib.hid hT
    clear hR hT
    go_wp2_with fail
    exact bodyPost_ret (v := .tuple #[.agg #[.int .u64 gv, .int .u64 gm, .int .u64 gl, .int .u64 gh, .int .i64 gi, .int .i64 gj], .bool false]) (by simp [results, Try.results91, go_sem, cR0, cR1, cR2, cR3, cR4, cR5]) rfl (RulePost.mk (⟨⟨gv, gm⟩, ⟨gl, gh, gi, gj⟩⟩) (by rw [HE.out, if_neg (by decide)]; rfl) (fun d hd => by rw [HE.out, if_neg (by decide)] at hd; cases hd) (by
    repeat (first | with_reducible exact HB.out | with_reducible refine But.alloc ?_ _ | (with_reducible refine But.setCell ?_ (.inr ?_) _; rotate_left; (simp only []; omega)))))
set_option maxRecDepth 100000 in
set_option maxHeartbeats 4000000 in
theorem upper1_c (v m lo hi xv xm xlo xhi : Nat) (sl sh xsl xsh : Int) (q : Bool) (k : Nat) (w : World) (hr : Rg (uppA q ⟨⟨v, m⟩, ⟨lo, hi, sl, sh⟩⟩ ⟨⟨xv, xm⟩, ⟨xlo, xhi, xsl, xsh⟩⟩)) (hx : xlo < 18446744073709551616) (hq : w.cell? ⟨k, 0, none⟩ = some (.bool q)) : Calls Try.prog 93 #[.agg #[.int .u64 v, .int .u64 m, .int .u64 lo, .int .u64 hi, .int .i64 sl, .int .i64 sh], .agg #[.int .u64 xv, .int .u64 xm, .int .u64 xlo, .int .u64 xhi, .int .i64 xsl, .int .i64 xsh], .pointer (some ⟨k, 0, none⟩)] w (RulePost (uppT q ⟨⟨v, m⟩, ⟨lo, hi, sl, sh⟩⟩ ⟨⟨xv, xm⟩, ⟨xlo, xhi, xsl, xsh⟩⟩) w) := by
  have C0 := Lib.hid (fun w => abU_c xlo q w hx)
  obtain ⟨n, hn⟩ : ∃ n, n = abU q xlo := ⟨_, rfl⟩
  obtain ⟨is, his⟩ : ∃ b, b = abUo q xlo := ⟨_, rfl⟩
  rw [← hn, ← his] at C0
  obtain ⟨p, hp⟩ : ∃ p, p = max lo n := ⟨_, rfl⟩
  have hpm : max (lo : Int) (n : Int) = (p : Int) := by rw [hp]; first | done | omega
  have hpr : uppA q ⟨⟨v, m⟩, ⟨lo, hi, sl, sh⟩⟩ ⟨⟨xv, xm⟩, ⟨xlo, xhi, xsl, xsh⟩⟩ = ⟨⟨v, m⟩, ⟨p, hi, sl, sh⟩⟩ := by simp only [uppA, hp, hn]
  rw [hpr] at hr
  obtain ⟨⟨⟨gv, gm⟩, ⟨gl, gh, gi, gj⟩⟩, hg⟩ : ∃ g : Sc, (ofT ⟨⟨v, m⟩, ⟨p, hi, sl, sh⟩⟩).getD zeroSc = g := ⟨_, rfl⟩
  obtain ⟨gb, hgb⟩ : ∃ b, (ofT ⟨⟨v, m⟩, ⟨p, hi, sl, sh⟩⟩).isSome = b := ⟨_, rfl⟩
  have C1 : Hid (∀ w, Calls Try.prog 88 #[.agg #[.int .u64 v, .int .u64 m, .int .u64 p, .int .u64 hi, .int .i64 sl, .int .i64 sh], .agg #[.int .u64 p, .int .u64 hi, .int .i64 sl, .int .i64 sh]] w fun e w' => e = .returned (.tuple #[.agg #[.int .u64 gv, .int .u64 gm, .int .u64 gl, .int .u64 gh, .int .i64 gi, .int .i64 gj], .bool gb]) ∧ But [] w w') := Lib.hid (fun w => by
    have h := bounded_c v m p hi sl sh p hi sl sh w hr
    rw [hg, hgb] at h
    exact h)
  have HE : Hid (uppT q ⟨⟨v, m⟩, ⟨lo, hi, sl, sh⟩⟩ ⟨⟨xv, xm⟩, ⟨xlo, xhi, xsl, xsh⟩⟩ = if is then ofT ⟨⟨v, m⟩, ⟨p, hi, sl, sh⟩⟩ else none) := Lib.hid (by unfold uppT; rw [hpr, his])
  have HG := Lib.hid hg
  have HGB := Lib.hid hgb
  have k1 : k < w.heap.size := cell_lt hq
  have k2 : k < w.heap.size + 1 := by omega
  have k3 : k < w.heap.size + 1 + 1 := by omega
  clear hr hx hn his hp hpr hg hgb
  cases is with
  | true =>
    go_enter Try.func93, Try.ntmps93
    go_wp2_with fail
    refine (C0.out _).mono ?_
    rintro e w7 ⟨rfl, rfl⟩
    go_wp2_with fail
    refine (C1.out _).mono ?_
    rintro e w8 ⟨rfl, hb8⟩
    have hR : w8.heap[w.heap.size + 1 + 1]? = some (.cells #[.int .u64 0, .int .u64 0, .int .u64 0, .int .u64 0, .int .i64 0, .int .i64 0] 28) := hb8.heap (by repeat (first | (with_reducible refine al_eq _ _ _ ?_; (simp only [size_alloc]; done)) | with_reducible refine al_keep ?_ _ | with_reducible refine dr_keep ?_)) (by simp)
    obtain ⟨cR0, cR1, cR2, cR3, cR4, cR5⟩ := c6_of hR
    obtain ⟨fR0, fR1, fR2, fR3, fR4, fR5⟩ := f6_of hR
    have zR := lt_of hR
    have HB : Hid (But [] w w8) := Lib.hid ((by repeat (first | with_reducible exact But.refl _ _ | with_reducible refine But.drew ?_ | with_reducible refine But.alloc ?_ _) : But [] w _).trans hb8 (by simp))
    have HR := Lib.hid hR
    clear hR hb8
    go_upto_region 4 with (fail)
    generalize hw : World.alloc w8 _ = w9
    have hR : w9.heap[w.heap.size + 1 + 1]? = some (.cells #[.int .u64 0, .int .u64 0, .int .u64 0, .int .u64 0, .int .i64 0, .int .i64 0] 28) := by rw [← hw]; exact al_keep HR.out _
    have hT : w9.heap[w8.heap.size]? = some (.cells #[.int .u64 gv, .int .u64 gm, .int .u64 gl, .int .u64 gh, .int .i64 gi, .int .i64 gj] 28) := by rw [← hw]; exact al_at _ _
    have HB : Hid (But [] w w9) := Lib.hid (by rw [← hw]; exact HB.out.alloc _)
    clear hw
    clear zR cR0 cR1 cR2 cR3 cR4 cR5 fR0 fR1 fR2 fR3 fR4 fR5
    obtain ⟨cR0, cR1, cR2, cR3, cR4, cR5⟩ := c6_of hR
    obtain ⟨fR0, fR1, fR2, fR3, fR4, fR5⟩ := f6_of hR
    have zR := lt_of hR
    obtain ⟨cT0, cT1, cT2, cT3, cT4, cT5⟩ := c6_of hT
    have zT := lt_of hT
    have HR := Lib.hid hR
    have HT := Lib.hid hT
    clear hR hT
    go_wp2_with fail
    exact bodyPost_ret (v := .tuple #[.agg #[.int .u64 gv, .int .u64 gm, .int .u64 gl, .int .u64 gh, .int .i64 gi, .int .i64 gj], .bool gb]) (by simp [results, Try.results93, go_sem, cR0, cR1, cR2, cR3, cR4, cR5]) rfl (RulePost.mk (⟨⟨gv, gm⟩, ⟨gl, gh, gi, gj⟩⟩) (by rw [HE.out, if_pos trivial, HGB.out]; rfl) (fun d hd => by rw [HE.out, if_pos trivial] at hd; rw [← HG.out, hd]; rfl) (by
    repeat (first | with_reducible exact HB.out | with_reducible refine But.alloc ?_ _ | (with_reducible refine But.setCell ?_ (.inr ?_) _; rotate_left; (simp only []; omega)))))
  | false =>
    go_enter Try.func93, Try.ntmps93
    go_wp2_with fail
    refine (C0.out _).mono ?_
    rintro e w7 ⟨rfl, rfl⟩
    go_wp2_with fail
    refine (C1.out _).mono ?_
    rintro e w8 ⟨rfl, hb8⟩
    have hR : w8.heap[w.heap.size + 1 + 1]? = some (.cells #[.int .u64 0, .int .u64 0, .int .u64 0, .int .u64 0, .int .i64 0, .int .i64 0] 28) := hb8.heap (by repeat (first | (with_reducible refine al_eq _ _ _ ?_; (simp only [size_alloc]; done)) | with_reducible refine al_keep ?_ _ | with_reducible refine dr_keep ?_)) (by simp)
    obtain ⟨cR0, cR1, cR2, cR3, cR4, cR5⟩ := c6_of hR
    obtain ⟨fR0, fR1, fR2, fR3, fR4, fR5⟩ := f6_of hR
    have zR := lt_of hR
    have HB : Hid (But [] w w8) := Lib.hid ((by repeat (first | with_reducible exact But.refl _ _ | with_reducible refine But.drew ?_ | with_reducible refine But.alloc ?_ _) : But [] w _).trans hb8 (by simp))
    have HR := Lib.hid hR
    clear hR hb8
    go_upto_region 4 with (fail)
    generalize hw : World.alloc w8 _ = w9
    have hR : w9.heap[w.heap.size + 1 + 1]? = some (.cells #[.int .u64 0, .int .u64 0, .int .u64 0, .int .u64 0, .int .i64 0, .int .i64 0] 28) := by rw [← hw]; exact al_keep HR.out _
    have hT : w9.heap[w8.heap.size]? = some (.cells #[.int .u64 gv, .int .u64 gm, .int .u64 gl, .int .u64 gh, .int .i64 gi, .int .i64 gj] 28) := by rw [← hw]; exact al_at _ _
    have HB : Hid (But [] w w9) := Lib.hid (by rw [← hw]; exact HB.out.alloc _)
    clear hw
    clear zR cR0 cR1 cR2 cR3 cR4 cR5 fR0 fR1 fR2 fR3 fR4 fR5
    obtain ⟨cR0, cR1, cR2, cR3, cR4, cR5⟩ := c6_of hR
    obtain ⟨fR0, fR1, fR2, fR3, fR4, fR5⟩ := f6_of hR
    have zR := lt_of hR
    obtain ⟨cT0, cT1, cT2, cT3, cT4, cT5⟩ := c6_of hT
    have zT := lt_of hT
    have HR := Lib.hid hR
    have HT := Lib.hid hT
    clear hR hT
    go_wp2_with fail
    exact bodyPost_ret (v := .tuple #[.agg #[.int .u64 gv, .int .u64 gm, .int .u64 gl, .int .u64 gh, .int .i64 gi, .int .i64 gj], .bool false]) (by simp [results, Try.results93, go_sem, cR0, cR1, cR2, cR3, cR4, cR5]) rfl (RulePost.mk (⟨⟨gv, gm⟩, ⟨gl, gh, gi, gj⟩⟩) (by rw [HE.out, if_neg (by decide)]; rfl) (fun d hd => by rw [HE.out, if_neg (by decide)] at hd; cases hd) (by
    repeat (first | with_reducible exact HB.out | with_reducible refine But.alloc ?_ _ | (with_reducible refine But.setCell ?_ (.inr ?_) _; rotate_left; (simp only []; omega)))))
set_option maxRecDepth 100000 in
set_option maxHeartbeats 4000000 in
theorem less1_c (v m lo hi xv xm xlo xhi : Nat) (sl sh xsl xsh : Int) (q : Bool) (k : Nat) (w : World) (hr : Rg (lesA q ⟨⟨v, m⟩, ⟨lo, hi, sl, sh⟩⟩ ⟨⟨xv, xm⟩, ⟨xlo, xhi, xsl, xsh⟩⟩)) (hx : -9223372036854775808 ≤ xsh) (hx2 : xsh ≤ 9223372036854775807) (hq : w.cell? ⟨k, 0, none⟩ = some (.bool q)) : Calls Try.prog 95 #[.agg #[.int .u64 v, .int .u64 m, .int .u64 lo, .int .u64 hi, .int .i64 sl, .int .i64 sh], .agg #[.int .u64 xv, .int .u64 xm, .int .u64 xlo, .int .u64 xhi, .int .i64 xsl, .int .i64 xsh], .pointer (some ⟨k, 0, none⟩)] w (RulePost (lesT q ⟨⟨v, m⟩, ⟨lo, hi, sl, sh⟩⟩ ⟨⟨xv, xm⟩, ⟨xlo, xhi, xsl, xsh⟩⟩) w) := by
  have C0 := Lib.hid (fun w => beI_c xsh q w hx hx2)
  obtain ⟨n, hn⟩ : ∃ n, n = beI q xsh := ⟨_, rfl⟩
  obtain ⟨is, his⟩ : ∃ b, b = beIo q xsh := ⟨_, rfl⟩
  rw [← hn, ← his] at C0
  obtain ⟨p, hp⟩ : ∃ p, p = min sh n := ⟨_, rfl⟩
  have hpm : min (sh : Int) (n : Int) = (p : Int) := by rw [hp]; first | done | omega
  have hpr : lesA q ⟨⟨v, m⟩, ⟨lo, hi, sl, sh⟩⟩ ⟨⟨xv, xm⟩, ⟨xlo, xhi, xsl, xsh⟩⟩ = ⟨⟨v, m⟩, ⟨lo, hi, sl, p⟩⟩ := by simp only [lesA, hp, hn]
  rw [hpr] at hr
  obtain ⟨⟨⟨gv, gm⟩, ⟨gl, gh, gi, gj⟩⟩, hg⟩ : ∃ g : Sc, (ofT ⟨⟨v, m⟩, ⟨lo, hi, sl, p⟩⟩).getD zeroSc = g := ⟨_, rfl⟩
  obtain ⟨gb, hgb⟩ : ∃ b, (ofT ⟨⟨v, m⟩, ⟨lo, hi, sl, p⟩⟩).isSome = b := ⟨_, rfl⟩
  have C1 : Hid (∀ w, Calls Try.prog 88 #[.agg #[.int .u64 v, .int .u64 m, .int .u64 lo, .int .u64 hi, .int .i64 sl, .int .i64 p], .agg #[.int .u64 lo, .int .u64 hi, .int .i64 sl, .int .i64 p]] w fun e w' => e = .returned (.tuple #[.agg #[.int .u64 gv, .int .u64 gm, .int .u64 gl, .int .u64 gh, .int .i64 gi, .int .i64 gj], .bool gb]) ∧ But [] w w') := Lib.hid (fun w => by
    have h := bounded_c v m lo hi sl p lo hi sl p w hr
    rw [hg, hgb] at h
    exact h)
  have HE : Hid (lesT q ⟨⟨v, m⟩, ⟨lo, hi, sl, sh⟩⟩ ⟨⟨xv, xm⟩, ⟨xlo, xhi, xsl, xsh⟩⟩ = if is then ofT ⟨⟨v, m⟩, ⟨lo, hi, sl, p⟩⟩ else none) := Lib.hid (by unfold lesT; rw [hpr, his])
  have HG := Lib.hid hg
  have HGB := Lib.hid hgb
  have k1 : k < w.heap.size := cell_lt hq
  have k2 : k < w.heap.size + 1 := by omega
  have k3 : k < w.heap.size + 1 + 1 := by omega
  clear hr hx hn his hp hpr hg hgb hx2
  cases is with
  | true =>
    go_enter Try.func95, Try.ntmps95
    go_wp2_with fail
    refine (C0.out _).mono ?_
    rintro e w7 ⟨rfl, rfl⟩
    go_wp2_with fail
    refine (C1.out _).mono ?_
    rintro e w8 ⟨rfl, hb8⟩
    have hR : w8.heap[w.heap.size + 1 + 1]? = some (.cells #[.int .u64 0, .int .u64 0, .int .u64 0, .int .u64 0, .int .i64 0, .int .i64 0] 28) := hb8.heap (by repeat (first | (with_reducible refine al_eq _ _ _ ?_; (simp only [size_alloc]; done)) | with_reducible refine al_keep ?_ _ | with_reducible refine dr_keep ?_)) (by simp)
    obtain ⟨cR0, cR1, cR2, cR3, cR4, cR5⟩ := c6_of hR
    obtain ⟨fR0, fR1, fR2, fR3, fR4, fR5⟩ := f6_of hR
    have zR := lt_of hR
    have HB : Hid (But [] w w8) := Lib.hid ((by repeat (first | with_reducible exact But.refl _ _ | with_reducible refine But.drew ?_ | with_reducible refine But.alloc ?_ _) : But [] w _).trans hb8 (by simp))
    have HR := Lib.hid hR
    clear hR hb8
    go_upto_region 4 with (fail)
    generalize hw : World.alloc w8 _ = w9
    have hR : w9.heap[w.heap.size + 1 + 1]? = some (.cells #[.int .u64 0, .int .u64 0, .int .u64 0, .int .u64 0, .int .i64 0, .int .i64 0] 28) := by rw [← hw]; exact al_keep HR.out _
    have hT : w9.heap[w8.heap.size]? = some (.cells #[.int .u64 gv, .int .u64 gm, .int .u64 gl, .int .u64 gh, .int .i64 gi, .int .i64 gj] 28) := by rw [← hw]; exact al_at _ _
    have HB : Hid (But [] w w9) := Lib.hid (by rw [← hw]; exact HB.out.alloc _)
    clear hw
    clear zR cR0 cR1 cR2 cR3 cR4 cR5 fR0 fR1 fR2 fR3 fR4 fR5
    obtain ⟨cR0, cR1, cR2, cR3, cR4, cR5⟩ := c6_of hR
    obtain ⟨fR0, fR1, fR2, fR3, fR4, fR5⟩ := f6_of hR
    have zR := lt_of hR
    obtain ⟨cT0, cT1, cT2, cT3, cT4, cT5⟩ := c6_of hT
    have zT := lt_of hT
    have HR := Lib.hid hR
    have HT := Lib.hid hT
    clear hR hT
    go_wp2_with fail
    exact bodyPost_ret (v := .tuple #[.agg #[.int .u64 gv, .int .u64 gm, .int .u64 gl, .int .u64 gh, .int .i64 gi, .int .i64 gj], .bool gb]) (by simp [results, Try.results95, go_sem, cR0, cR1, cR2, cR3, cR4, cR5]) rfl (RulePost.mk (⟨⟨gv, gm⟩, ⟨gl, gh, gi, gj⟩⟩) (by rw [HE.out, if_pos trivial, HGB.out]; rfl) (fun d hd => by rw [HE.out, if_pos trivial] at hd; rw [← HG.out, hd]; rfl) (by
    repeat (first | with_reducible exact HB.out | with_reducible refine But.alloc ?_ _ | (with_reducible refine But.setCell ?_ (.inr ?_) _; rotate_left; (simp only []; omega)))))
  | false =>
    go_enter Try.func95, Try.ntmps95
    go_wp2_with fail
    refine (C0.out _).mono ?_
    rintro e w7 ⟨rfl, rfl⟩
    go_wp2_with fail
    refine (C1.out _).mono ?_
    rintro e w8 ⟨rfl, hb8⟩
    have hR : w8.heap[w.heap.size + 1 + 1]? = some (.cells #[.int .u64 0, .int .u64 0, .int .u64 0, .int .u64 0, .int .i64 0, .int .i64 0] 28) := hb8.heap (by repeat (first | (with_reducible refine al_eq _ _ _ ?_; (simp only [size_alloc]; done)) | with_reducible refine al_keep ?_ _ | with_reducible refine dr_keep ?_)) (by simp)
    obtain ⟨cR0, cR1, cR2, cR3, cR4, cR5⟩ := c6_of hR
    obtain ⟨fR0, fR1, fR2, fR3, fR4, fR5⟩ := f6_of hR
    have zR := lt_of hR
    have HB : Hid (But [] w w8) := Lib.hid ((by repeat (first | with_reducible exact But.refl _ _ | with_reducible refine But.drew ?_ | with_reducible refine But.alloc ?_ _) : But [] w _).trans hb8 (by simp))
    have HR := Lib.hid hR
    clear hR hb8
    go_upto_region 4 with (fail)
    generalize hw : World.alloc w8 _ = w9
    have hR : w9.heap[w.heap.size + 1 + 1]? = some (.cells #[.int .u64 0, .int .u64 0, .int .u64 0, .int .u64 0, .int .i64 0, .int .i64 0] 28) := by rw [← hw]; exact al_keep HR.out _
    have hT : w9.heap[w8.heap.size]? = some (.cells #[.int .u64 gv, .int .u64 gm, .int .u64 gl, .int .u64 gh, .int .i64 gi, .int .i64 gj] 28) := by rw [← hw]; exact al_at _ _
    have HB : Hid (But [] w w9) := Lib.hid (by rw [← hw]; exact HB.out.alloc _)
    clear hw
    clear zR cR0 cR1 cR2 cR3 cR4 cR5 fR0 fR1 fR2 fR3 fR4 fR5
    obtain ⟨cR0, cR1, cR2, cR3, cR4, cR5⟩ := c6_of hR
    obtain ⟨fR0, fR1, fR2, fR3, fR4, fR5⟩ := f6_of hR
    have zR := lt_of hR
    obtain ⟨cT0, cT1, cT2, cT3, cT4, cT5⟩ := c6_of hT
    have zT := lt_of hT
    have HR := Lib.hid hR
    have HT := Lib.hid hT
    clear hR hT
    go_wp2_with fail
    exact bodyPost_ret (v := .tuple #[.agg #[.int .u64 gv, .int .u64 gm, .int .u64 gl, .int .u64 gh, .int .i64 gi, .int .i64 gj], .bool false]) (by simp [results, Try.results95, go_sem, cR0, cR1, cR2, cR3, cR4, cR5]) rfl (RulePost.mk (⟨⟨gv, gm⟩, ⟨gl, gh, gi, gj⟩⟩) (by rw [HE.out, if_neg (by decide)]; rfl) (fun d hd => by rw [HE.out, if_neg (by decide)] at hd; cases hd) (by
    repeat (first | with_reducible exact HB.out | with_reducible refine But.alloc ?_ _ | (with_reducible refine But.setCell ?_ (.inr ?_) _; rotate_left; (simp only []; omega)))))
set_option maxRecDepth 100000 in
set_option maxHeartbeats 4000000 in
theorem more1_c (v m lo hi xv xm xlo xhi : Nat) (sl sh xsl xsh : Int) (q : Bool) (k : Nat) (w : World) (hr : Rg (morA q ⟨⟨v, m⟩, ⟨lo, hi, sl, sh⟩⟩ ⟨⟨xv, xm⟩, ⟨xlo, xhi, xsl, xsh⟩⟩)) (hx : -9223372036854775808 ≤ xsl) (hx2 : xsl ≤ 9223372036854775807) (hq : w.cell? ⟨k, 0, none⟩ = some (.bool q)) : Calls Try.prog 97 #[.agg #[.int .u64 v, .int .u64 m, .int .u64 lo, .int .u64 hi, .int .i64 sl, .int .i64 sh], .agg #[.int .u64 xv, .int .u64 xm, .int .u64 xlo, .int .u64 xhi, .int .i64 xsl, .int .i64 xsh], .pointer (some ⟨k, 0, none⟩)] w (RulePost (morT q ⟨⟨v, m⟩, ⟨lo, hi, sl, sh⟩⟩ ⟨⟨xv, xm⟩, ⟨xlo, xhi, xsl, xsh⟩⟩) w) := by
  have C0 := Lib.hid (fun w => abI_c xsl q w hx hx2)
  obtain ⟨n, hn⟩ : ∃ n, n = abI q xsl := ⟨_, rfl⟩
  obtain ⟨is, his⟩ : ∃ b, b = abIo q xsl := ⟨_, rfl⟩
  rw [← hn, ← his] at C0
  obtain ⟨p, hp⟩ : ∃ p, p = max sl n := ⟨_, rfl⟩
  have hpm : max (sl : Int) (n : Int) = (p : Int) := by rw [hp]; first | done | omega
  have hpr : morA q ⟨⟨v, m⟩, ⟨lo, hi, sl, sh⟩⟩ ⟨⟨xv, xm⟩, ⟨xlo, xhi, xsl, xsh⟩⟩ = ⟨⟨v, m⟩, ⟨lo, hi, p, sh⟩⟩ := by simp only [morA, hp, hn]
  rw [hpr] at hr
  obtain ⟨⟨⟨gv, gm⟩, ⟨gl, gh, gi, gj⟩⟩, hg⟩ : ∃ g : Sc, (ofT ⟨⟨v, m⟩, ⟨lo, hi, p, sh⟩⟩).getD zeroSc = g := ⟨_, rfl⟩
  obtain ⟨gb, hgb⟩ : ∃ b, (ofT ⟨⟨v, m⟩, ⟨lo, hi, p, sh⟩⟩).isSome = b := ⟨_, rfl⟩
  have C1 : Hid (∀ w, Calls Try.prog 88 #[.agg #[.int .u64 v, .int .u64 m, .int .u64 lo, .int .u64 hi, .int .i64 p, .int .i64 sh], .agg #[.int .u64 lo, .int .u64 hi, .int .i64 p, .int .i64 sh]] w fun e w' => e = .returned (.tuple #[.agg #[.int .u64 gv, .int .u64 gm, .int .u64 gl, .int .u64 gh, .int .i64 gi, .int .i64 gj], .bool gb]) ∧ But [] w w') := Lib.hid (fun w => by
    have h := bounded_c v m lo hi p sh lo hi p sh w hr
    rw [hg, hgb] at h
    exact h)
  have HE : Hid (morT q ⟨⟨v, m⟩, ⟨lo, hi, sl, sh⟩⟩ ⟨⟨xv, xm⟩, ⟨xlo, xhi, xsl, xsh⟩⟩ = if is then ofT ⟨⟨v, m⟩, ⟨lo, hi, p, sh⟩⟩ else none) := Lib.hid (by unfold morT; rw [hpr, his])
  have HG := Lib.hid hg
  have HGB := Lib.hid hgb
  have k1 : k < w.heap.size := cell_lt hq
  have k2 : k < w.heap.size + 1 := by omega
  have k3 : k < w.heap.size + 1 + 1 := by omega
  clear hr hx hn his hp hpr hg hgb hx2
  cases is with
  | true =>
    go_enter Try.func97, Try.ntmps97
    go_wp2_with fail
    refine (C0.out _).mono ?_
    rintro e w7 ⟨rfl, rfl⟩
    go_wp2_with fail
    refine (C1.out _).mono ?_
    rintro e w8 ⟨rfl, hb8⟩
    have hR : w8.heap[w.heap.size + 1 + 1]? = some (.cells #[.int .u64 0, .int .u64 0, .int .u64 0, .int .u64 0, .int .i64 0, .int .i64 0] 28) := hb8.heap (by repeat (first | (with_reducible refine al_eq _ _ _ ?_; (simp only [size_alloc]; done)) | with_reducible refine al_keep ?_ _ | with_reducible refine dr_keep ?_)) (by simp)
    obtain ⟨cR0, cR1, cR2, cR3, cR4, cR5⟩ := c6_of hR
    obtain ⟨fR0, fR1, fR2, fR3, fR4, fR5⟩ := f6_of hR
    have zR := lt_of hR
    have HB : Hid (But [] w w8) := Lib.hid ((by repeat (first | with_reducible exact But.refl _ _ | with_reducible refine But.drew ?_ | with_reducible refine But.alloc ?_ _) : But [] w _).trans hb8 (by simp))
    have HR := Lib.hid hR
    clear hR hb8
    go_upto_region 4 with (fail)
    generalize hw : World.alloc w8 _ = w9
    have hR : w9.heap[w.heap.size + 1 + 1]? = some (.cells #[.int .u64 0, .int .u64 0, .int .u64 0, .int .u64 0, .int .i64 0, .int .i64 0] 28) := by rw [← hw]; exact al_keep HR.out _
    have hT : w9.heap[w8.heap.size]? = some (.cells #[.int .u64 gv, .int .u64 gm, .int .u64 gl, .int .u64 gh, .int .i64 gi, .int .i64 gj] 28) := by rw [← hw]; exact al_at _ _
    have HB : Hid (But [] w w9) := Lib.hid (by rw [← hw]; exact HB.out.alloc _)
    clear hw
    clear zR cR0 cR1 cR2 cR3 cR4 cR5 fR0 fR1 fR2 fR3 fR4 fR5
    obtain ⟨cR0, cR1, cR2, cR3, cR4, cR5⟩ := c6_of hR
    obtain ⟨fR0, fR1, fR2, fR3, fR4, fR5⟩ := f6_of hR
    have zR := lt_of hR
    obtain ⟨cT0, cT1, cT2, cT3, cT4, cT5⟩ := c6_of hT
    have zT := lt_of hT
    have HR := Lib.hid hR
    have HT := Lib.hid hT
    clear hR hT
    go_wp2_with fail
    exact bodyPost_ret (v := .tuple #[.agg #[.int .u64 gv, .int .u64 gm, .int .u64 gl, .int .u64 gh, .int .i64 gi, .int .i64 gj], .bool gb]) (by simp [results, Try.results97, go_sem, cR0, cR1, cR2, cR3, cR4, cR5]) rfl (RulePost.mk (⟨⟨gv, gm⟩, ⟨gl, gh, gi, gj⟩⟩) (by rw [HE.out, if_pos trivial, HGB.out]; rfl) (fun d hd => by rw [HE.out, if_pos trivial] at hd; rw [← HG.out, hd]; rfl) (by
    repeat (first | with_reducible exact HB.out | with_reducible refine But.alloc ?_ _ | (with_reducible refine But.setCell ?_ (.inr ?_) _; rotate_left; (simp only []; omega)))))
  | false =>
    go_enter Try.func97, Try.ntmps97
    go_wp2_with fail
    refine (C0.out _).mono ?_
    rintro e w7 ⟨rfl, rfl⟩
    go_wp2_with fail
    refine (C1.out _).mono ?_
    rintro e w8 ⟨rfl, hb8⟩
    have hR : w8.heap[w.heap.size + 1 + 1]? = some (.cells #[.int .u64 0, .int .u64 0, .int .u64 0, .int .u64 0, .int .i64 0, .int .i64 0] 28) := hb8.heap (by repeat (first | (with_reducible refine al_eq _ _ _ ?_; (simp only [size_alloc]; done)) | with_reducible refine al_keep ?_ _ | with_reducible refine dr_keep ?_)) (by simp)
    obtain ⟨cR0, cR1, cR2, cR3, cR4, cR5⟩ := c6_of hR
    obtain ⟨fR0, fR1, fR2, fR3, fR4, fR5⟩ := f6_of hR
    have zR := lt_of hR
    have HB : Hid (But [] w w8) := Lib.hid ((by repeat (first | with_reducible exact But.refl _ _ | with_reducible refine But.drew ?_ | with_reducible refine But.alloc ?_ _) : But [] w _).trans hb8 (by simp))
    have HR := Lib.hid hR
    clear hR hb8
    go_upto_region 4 with (fail)
    generalize hw : World.alloc w8 _ = w9
    have hR : w9.heap[w.heap.size + 1 + 1]? = some (.cells #[.int .u64 0, .int .u64 0, .int .u64 0, .int .u64 0, .int .i64 0, .int .i64 0] 28) := by rw [← hw]; exact al_keep HR.out _
    have hT : w9.heap[w8.heap.size]? = some (.cells #[.int .u64 gv, .int .u64 gm, .int .u64 gl, .int .u64 gh, .int .i64 gi, .int .i64 gj] 28) := by rw [← hw]; exact al_at _ _
    have HB : Hid (But [] w w9) := Lib.hid (by rw [← hw]; exact HB.out.alloc _)
    clear hw
    clear zR cR0 cR1 cR2 cR3 cR4 cR5 fR0 fR1 fR2 fR3 fR4 fR5
    obtain ⟨cR0, cR1, cR2, cR3, cR4, cR5⟩ := c6_of hR
    obtain ⟨fR0, fR1, fR2, fR3, fR4, fR5⟩ := f6_of hR
    have zR := lt_of hR
    obtain ⟨cT0, cT1, cT2, cT3, cT4, cT5⟩ := c6_of hT
    have zT := lt_of hT
    have HR := Lib.hid hR
    have HT := Lib.hid hT
    clear hR hT
    go_wp2_with fail
    exact bodyPost_ret (v := .tuple #[.agg #[.int .u64 gv, .int .u64 gm, .int .u64 gl, .int .u64 gh, .int .i64 gi, .int .i64 gj], .bool false]) (by simp [results, Try.results97, go_sem, cR0, cR1, cR2, cR3, cR4, cR5]) rfl (RulePost.mk (⟨⟨gv, gm⟩, ⟨gl, gh, gi, gj⟩⟩) (by rw [HE.out, if_neg (by decide)]; rfl) (fun d hd => by rw [HE.out, if_neg (by decide)] at hd; cases hd) (by
    repeat (first | with_reducible exact HB.out | with_reducible refine But.alloc ?_ _ | (with_reducible refine But.setCell ?_ (.inr ?_) _; rotate_left; (simp only []; omega)))))
end Go.Proofs.Ytmbmmcippglfoaa.M
