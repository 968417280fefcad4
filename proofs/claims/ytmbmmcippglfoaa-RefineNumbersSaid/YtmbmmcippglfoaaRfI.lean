/-
  The reference: hatchwayref21.opposite, Branch.
-/
import Derived.Test.YtmbmmcippglfoaaRfH
namespace Go.Proofs.Ytmbmmcippglfoaa.M
open Go.RowKit Go.Shelf
set_option linter.unusedVariables false
set_option linter.unusedSectionVars false
set_option linter.unusedSimpArgs false

def oppR (op : Nat) : Nat := if op = 1 then 64 else opp op
def tabR (i : Nat) : Nat := match i with | 0 => 16 | 1 => 80 | 2 => 32 | 3 => 176 | 4 => 48 | 5 => 160 | 6 => 96 | 7 => 208 | 8 => 112 | 9 => 192 | 10 => 64 | _ => 1
def tabCells : Array Value := #[.int .u8 16, .int .u8 80, .int .u8 32, .int .u8 176, .int .u8 48, .int .u8 160, .int .u8 96, .int .u8 208, .int .u8 112, .int .u8 192, .int .u8 64, .int .u8 1]
theorem tabR_next {i : Nat} (h : i < 12) : ∃ x : Nat, x < 12 ∧ bits .xor .i64 (i : Int) 1 = (x : Int) ∧ tabR x = oppR (tabR i) := by
  match i, h with
  | 0, _ => exact ⟨1, by decide, by decide, by decide⟩
  | 1, _ => exact ⟨0, by decide, by decide, by decide⟩
  | 2, _ => exact ⟨3, by decide, by decide, by decide⟩
  | 3, _ => exact ⟨2, by decide, by decide, by decide⟩
  | 4, _ => exact ⟨5, by decide, by decide, by decide⟩
  | 5, _ => exact ⟨4, by decide, by decide, by decide⟩
  | 6, _ => exact ⟨7, by decide, by decide, by decide⟩
  | 7, _ => exact ⟨6, by decide, by decide, by decide⟩
  | 8, _ => exact ⟨9, by decide, by decide, by decide⟩
  | 9, _ => exact ⟨8, by decide, by decide, by decide⟩
  | 10, _ => exact ⟨11, by decide, by decide, by decide⟩
  | 11, _ => exact ⟨10, by decide, by decide, by decide⟩
theorem tabR_none {op : Nat} (h : ∀ k, k < 12 → tabR k ≠ op) : oppR op = 0 := by
  have h0 := h 0 (by decide)
  have h1 := h 1 (by decide)
  have h2 := h 2 (by decide)
  have h3 := h 3 (by decide)
  have h4 := h 4 (by decide)
  have h5 := h 5 (by decide)
  have h6 := h 6 (by decide)
  have h7 := h 7 (by decide)
  have h8 := h 8 (by decide)
  have h9 := h 9 (by decide)
  have h10 := h 10 (by decide)
  have h11 := h 11 (by decide)
  simp only [tabR] at h0 h1 h2 h3 h4 h5 h6 h7 h8 h9 h10 h11
  unfold oppR
  rw [if_neg (Ne.symm h11)]
  unfold opp
  split <;> first | rfl | omega
theorem tab_cell {W : World} {k i : Nat} {t : TypeId} (h : W.heap[k]? = some (.cells tabCells t)) (hi : i < 12) : W.cell? ⟨k, i, none⟩ = some (.int .u8 (tabR i : Int)) := by
  match i, hi with
  | 0, _ => exact cl_of h 0
  | 1, _ => exact cl_of h 1
  | 2, _ => exact cl_of h 2
  | 3, _ => exact cl_of h 3
  | 4, _ => exact cl_of h 4
  | 5, _ => exact cl_of h 5
  | 6, _ => exact cl_of h 6
  | 7, _ => exact cl_of h 7
  | 8, _ => exact cl_of h 8
  | 9, _ => exact cl_of h 9
  | 10, _ => exact cl_of h 10
  | 11, _ => exact cl_of h 11
set_option maxRecDepth 100000 in
set_option maxHeartbeats 4000000 in
theorem r21opp (op : Nat) (w : World) : Calls Try.prog 36 #[.int .u8 (op : Int)] w fun e w' => e = .returned (.int .u8 (oppR op : Int)) ∧ But [] w w' := by
  go_enter Try.func36, Try.ntmps36
  go_wp2_with fail
  generalize hw : World.alloc w _ = w2
  have HL : Hid (w2.heap[w.heap.size]? = some (.cells tabCells 5)) := Lib.hid (by rw [← hw]; exact al_at _ _)
  have HB : Hid (But [] w w2) := Lib.hid (by rw [← hw]; exact (But.refl [] w).alloc _)
  clear hw
  obtain ⟨L, hL⟩ : ∃ n, n = w.heap.size := ⟨_, rfl⟩
  rw [← hL] at HL ⊢
  clear hL
  go_loop [4] (fun i => ∃ j : Nat, j ≤ 12 ∧ i = .int .i64 (j : Int) ∧ ∀ k, k < j → tabR k ≠ op) (fun i => (12 - intOf i).toNat)
  case atStart => exact ⟨0, by omega, rfl, fun k hk => by omega⟩
  case round =>
    obtain ⟨j, hj, rfl, hk⟩ := hrel
    have HK := Lib.hid hk
    clear hk
    by_cases hj6 : j = 12
    · subst hj6
      have HZ : Hid (oppR op = 0) := Lib.hid (tabR_none HK.out)
      go_wp2_with fail
      go_ret
      exact ⟨by rw [HZ.out]; rfl, HB.out⟩
    have hjl : j < 12 := by omega
    have hc := tab_cell HL.out hjl
    obtain ⟨x, hx, hbx, htx⟩ := tabR_next hjl
    have hc2 := tab_cell HL.out hx
    have HTX := Lib.hid htx
    obtain ⟨t, ht⟩ : ∃ t, t = tabR j := ⟨_, rfl⟩
    obtain ⟨u, hu⟩ : ∃ t, t = tabR x := ⟨_, rfl⟩
    rw [← ht] at hc HTX
    rw [← hu] at hc2 HTX
    have HT := Lib.hid ht
    have h1 : (j : Int) < 12 := by omega
    have h2 : (x : Int) < 12 := by omega
    have h3 : (0 : Int) ≤ (x : Int) := by omega
    clear htx ht hu hj6 hj
    by_cases hq : t = op
    · have e1 : ((t : Int) == (op : Int)) = true := by rw [hq]; simp
      have HQ := Lib.hid hq
      clear hq
      go_wp2_with fail
      go_ret
      exact ⟨by rw [HTX.out, HQ.out]; first | done | rfl, HB.out⟩
    · have e1 : ((t : Int) == (op : Int)) = false := by rw [beq_eq_false_iff_ne]; omega
      have HQ := Lib.hid hq
      clear hq
      go_wp2_with fail
      go_round
      case rel => exact ⟨j + 1, by omega, by simp, fun k hk => by
        by_cases h : k = j
        · rw [h, ← HT.out]; exact HQ.out
        · exact HK.out k (by omega)⟩
      case measure => simp only [intOf]; omega
theorem not_big {wide : Bool} {hi xhi : Nat} (hw : wide = true ∨ (hi ≤ 2147483647 ∧ xhi ≤ 2147483647)) : ¬ (!wide && decide (2147483648 ≤ max hi xhi)) = true := by
  cases wide with
  | true => simp
  | false =>
    have := hw.resolve_left (by decide)
    simp only [Bool.not_false, Bool.true_and, decide_eq_true_eq]
    omega
theorem r21holds (v m lo hi xv xm xlo xhi : Nat) (sl sh xsl xsh : Int) (op : Nat) (ho : op = 16 ∨ op = 80 ∨ op = 32 ∨ op = 176 ∨ op = 48 ∨ op = 160 ∨ op = 96 ∨ op = 208 ∨ op = 112 ∨ op = 192 ∨ op = 64 ∨ op = 1) (hr : Rg ⟨⟨v, m⟩, ⟨lo, hi, sl, sh⟩⟩) (hx : Rg ⟨⟨xv, xm⟩, ⟨xlo, xhi, xsl, xsh⟩⟩) (ia : sl ≤ sh) (ib : xsl ≤ xsh) (w : World) : Calls Try.prog 37 #[.int .u8 (op : Int), .agg #[.int .u64 v, .int .u64 m, .int .u64 lo, .int .u64 hi, .int .i64 sl, .int .i64 sh], .agg #[.int .u64 xv, .int .u64 xm, .int .u64 xlo, .int .u64 xhi, .int .i64 xsl, .int .i64 xsh]] w (PairPost (holdT op ⟨⟨v, m⟩, ⟨lo, hi, sl, sh⟩⟩ ⟨⟨xv, xm⟩, ⟨xlo, xhi, xsl, xsh⟩⟩) w) := by
  rcases ho with rfl | rfl | rfl | rfl | rfl | rfl | rfl | rfl | rfl | rfl | rfl | rfl
  · exact r21holds_16 v m lo hi xv xm xlo xhi sl sh xsl xsh w hr hx ia ib
  · exact r21holds_80 v m lo hi xv xm xlo xhi sl sh xsl xsh w hr hx ia ib
  · exact r21holds_32 v m lo hi xv xm xlo xhi sl sh xsl xsh w hr hx ia ib
  · exact r21holds_176 v m lo hi xv xm xlo xhi sl sh xsl xsh w hr hx ia ib
  · exact r21holds_48 v m lo hi xv xm xlo xhi sl sh xsl xsh w hr hx ia ib
  · exact r21holds_160 v m lo hi xv xm xlo xhi sl sh xsl xsh w hr hx ia ib
  · exact r21holds_96 v m lo hi xv xm xlo xhi sl sh xsl xsh w hr hx ia ib
  · exact r21holds_208 v m lo hi xv xm xlo xhi sl sh xsl xsh w hr hx ia ib
  · exact r21holds_112 v m lo hi xv xm xlo xhi sl sh xsl xsh w hr hx ia ib
  · exact r21holds_192 v m lo hi xv xm xlo xhi sl sh xsl xsh w hr hx ia ib
  · exact r21holds_64 v m lo hi xv xm xlo xhi sl sh xsl xsh w hr hx ia ib
  · exact r21holds_1 v m lo hi xv xm xlo xhi sl sh xsl xsh w hr hx ia ib
set_option maxRecDepth 100000 in
set_option maxHeartbeats 4000000 in
theorem r21br0 (op : Nat) (wide taken : Bool) (v m lo hi xv xm xlo xhi : Nat) (sl sh xsl xsh : Int) (w : World) (hop : op < 256) (hr : Rg ⟨⟨v, m⟩, ⟨lo, hi, sl, sh⟩⟩) (hx : Rg ⟨⟨xv, xm⟩, ⟨xlo, xhi, xsl, xsh⟩⟩) (h0 : rightB ⟨⟨v, m⟩, ⟨lo, hi, sl, sh⟩⟩ = false) : Calls Try.prog 18 #[.int .u8 (op : Int), .bool wide, .agg #[.int .u64 v, .int .u64 m, .int .u64 lo, .int .u64 hi, .int .i64 sl, .int .i64 sh], .agg #[.int .u64 xv, .int .u64 xm, .int .u64 xlo, .int .u64 xhi, .int .i64 xsl, .int .i64 xsh], .bool taken] w (BrPost (branchT op wide ⟨⟨v, m⟩, ⟨lo, hi, sl, sh⟩⟩ ⟨⟨xv, xm⟩, ⟨xlo, xhi, xsl, xsh⟩⟩ taken) w) := by
  have G0 := Lib.hid (fun w => r19Right0 v m lo hi sl sh w hr)
  have G1 := Lib.hid (fun w => r19Right0 xv xm xlo xhi xsl xsh w hx)
  have G2 := Lib.hid (fun w => r21opp op w)
  have HE : Hid (branchT op wide ⟨⟨v, m⟩, ⟨lo, hi, sl, sh⟩⟩ ⟨⟨xv, xm⟩, ⟨xlo, xhi, xsl, xsh⟩⟩ taken = none) := Lib.hid (by unfold branchT; rw [if_neg (by simp [h0])])
  rw [h0] at G0
  clear h0 hr hx hop G1 G2
  go_enter Try.func18, Try.ntmps18
  go_upto_region 2 with (fail)
  generalize hw : World.alloc _ _ = w9
  have HA : Hid (w9.heap[w.heap.size]? = some (.cells #[.int .u64 v, .int .u64 m, .int .u64 lo, .int .u64 hi, .int .i64 sl, .int .i64 sh] 28)) := Lib.hid (by rw [← hw]; exact (by repeat (first | (with_reducible refine al_eq _ _ _ ?_; (simp only [size_alloc]; done)) | with_reducible refine al_keep ?_ _ | with_reducible refine dr_keep ?_ | with_reducible refine drN_keep ?_)))
  have HX : Hid (w9.heap[w.heap.size + 1]? = some (.cells #[.int .u64 xv, .int .u64 xm, .int .u64 xlo, .int .u64 xhi, .int .i64 xsl, .int .i64 xsh] 28)) := Lib.hid (by rw [← hw]; exact (by repeat (first | (with_reducible refine al_eq _ _ _ ?_; (simp only [size_alloc]; done)) | with_reducible refine al_keep ?_ _ | with_reducible refine dr_keep ?_ | with_reducible refine drN_keep ?_)))
  have HR : Hid (w9.heap[w.heap.size + 1 + 1]? = some (.cells #[.int .u64 0, .int .u64 0, .int .u64 0, .int .u64 0, .int .i64 0, .int .i64 0] 28)) := Lib.hid (by rw [← hw]; exact (by repeat (first | (with_reducible refine al_eq _ _ _ ?_; (simp only [size_alloc]; done)) | with_reducible refine al_keep ?_ _ | with_reducible refine dr_keep ?_ | with_reducible refine drN_keep ?_)))
  have HQ : Hid (w9.heap[w.heap.size + 1 + 1 + 1]? = some (.cells #[.int .u64 0, .int .u64 0, .int .u64 0, .int .u64 0, .int .i64 0, .int .i64 0] 28)) := Lib.hid (by rw [← hw]; exact (by repeat (first | (with_reducible refine al_eq _ _ _ ?_; (simp only [size_alloc]; done)) | with_reducible refine al_keep ?_ _ | with_reducible refine dr_keep ?_ | with_reducible refine drN_keep ?_)))
  have HN : Hid (w9.heap[w.heap.size + 1 + 1 + 1 + 1]? = some (.cells #[.int .u64 0, .int .u64 0, .int .u64 0, .int .u64 0, .int .i64 0, .int .i64 0] 28)) := Lib.hid (by rw [← hw]; exact (by repeat (first | (with_reducible refine al_eq _ _ _ ?_; (simp only [size_alloc]; done)) | with_reducible refine al_keep ?_ _ | with_reducible refine dr_keep ?_ | with_reducible refine drN_keep ?_)))
  have HB : Hid (But [] w w9) := Lib.hid (by rw [← hw]; exact (by repeat (first | with_reducible exact But.refl _ _ | with_reducible refine But.drew ?_ | with_reducible refine drN_but ?_ | with_reducible refine But.alloc ?_ _)))
  clear hw
  have hx := HA.out
  obtain ⟨cA0, cA1, cA2, cA3, cA4, cA5⟩ := c6_of hx
  have zA := lt_of hx
  clear hx
  go_wp2_with fail
  refine (G0.out _).mono ?_
  rintro e w10 ⟨rfl, hb⟩
  have HA := Lib.hid (hb.heap HA.out (by simp))
  have HX := Lib.hid (hb.heap HX.out (by simp))
  have HR := Lib.hid (hb.heap HR.out (by simp))
  have HQ := Lib.hid (hb.heap HQ.out (by simp))
  have HN := Lib.hid (hb.heap HN.out (by simp))
  have HB := Lib.hid (HB.out.trans hb (by simp))
  clear hb
  clear zA cA0 cA1 cA2 cA3 cA4 cA5
  go_upto_region 3 with (fail)
  have hx := HN.out
  obtain ⟨cN0, cN1, cN2, cN3, cN4, cN5⟩ := c6_of hx
  have zN := lt_of hx
  clear hx
  have hx := HR.out
  obtain ⟨cR0, cR1, cR2, cR3, cR4, cR5⟩ := c6_of hx
  obtain ⟨fR0, fR1, fR2, fR3, fR4, fR5⟩ := f6_of hx
  have zR := lt_of hx
  clear hx
  have hx := HQ.out
  obtain ⟨cQ0, cQ1, cQ2, cQ3, cQ4, cQ5⟩ := c6_of hx
  obtain ⟨fQ0, fQ1, fQ2, fQ3, fQ4, fQ5⟩ := f6_of hx
  have zQ := lt_of hx
  clear hx
  go_region
  all_goals (repeat (first | go_values | go_skip | go_guarded | go_step | go_upon))
  all_goals exact bodyPost_ret (v := .tuple #[.agg #[.int .u64 0, .int .u64 0, .int .u64 0, .int .u64 0, .int .i64 0, .int .i64 0], .agg #[.int .u64 0, .int .u64 0, .int .u64 0, .int .u64 0, .int .i64 0, .int .i64 0], .bool false]) (by simp [results, Try.results18, go_sem, cR0, cR1, cR2, cR3, cR4, cR5, cQ0, cQ1, cQ2, cQ3, cQ4, cQ5]) rfl ⟨by rw [HE.out]; rfl, by
    repeat (first | with_reducible exact HB.out | with_reducible refine But.alloc ?_ _ | with_reducible refine But.drew ?_ | (with_reducible refine But.setCell ?_ (.inr ?_) _; rotate_left; (simp only []; omega)))⟩
set_option maxRecDepth 100000 in
set_option maxHeartbeats 4000000 in
theorem r21br1 (op : Nat) (wide taken : Bool) (v m lo hi xv xm xlo xhi : Nat) (sl sh xsl xsh : Int) (w : World) (hop : op < 256) (hr : Rg ⟨⟨v, m⟩, ⟨lo, hi, sl, sh⟩⟩) (hx : Rg ⟨⟨xv, xm⟩, ⟨xlo, xhi, xsl, xsh⟩⟩) (h0 : rightB ⟨⟨v, m⟩, ⟨lo, hi, sl, sh⟩⟩ = true) (h1 : rightB ⟨⟨xv, xm⟩, ⟨xlo, xhi, xsl, xsh⟩⟩ = false) : Calls Try.prog 18 #[.int .u8 (op : Int), .bool wide, .agg #[.int .u64 v, .int .u64 m, .int .u64 lo, .int .u64 hi, .int .i64 sl, .int .i64 sh], .agg #[.int .u64 xv, .int .u64 xm, .int .u64 xlo, .int .u64 xhi, .int .i64 xsl, .int .i64 xsh], .bool taken] w (BrPost (branchT op wide ⟨⟨v, m⟩, ⟨lo, hi, sl, sh⟩⟩ ⟨⟨xv, xm⟩, ⟨xlo, xhi, xsl, xsh⟩⟩ taken) w) := by
  have G0 := Lib.hid (fun w => r19Right0 v m lo hi sl sh w hr)
  have G1 := Lib.hid (fun w => r19Right0 xv xm xlo xhi xsl xsh w hx)
  have G2 := Lib.hid (fun w => r21opp op w)
  have HE : Hid (branchT op wide ⟨⟨v, m⟩, ⟨lo, hi, sl, sh⟩⟩ ⟨⟨xv, xm⟩, ⟨xlo, xhi, xsl, xsh⟩⟩ taken = none) := Lib.hid (by unfold branchT; rw [if_neg (by simp [h1])])
  rw [h0] at G0
  rw [h1] at G1
  clear h0 h1 hr hx hop G2
  go_enter Try.func18, Try.ntmps18
  go_upto_region 2 with (fail)
  generalize hw : World.alloc _ _ = w9
  have HA : Hid (w9.heap[w.heap.size]? = some (.cells #[.int .u64 v, .int .u64 m, .int .u64 lo, .int .u64 hi, .int .i64 sl, .int .i64 sh] 28)) := Lib.hid (by rw [← hw]; exact (by repeat (first | (with_reducible refine al_eq _ _ _ ?_; (simp only [size_alloc]; done)) | with_reducible refine al_keep ?_ _ | with_reducible refine dr_keep ?_ | with_reducible refine drN_keep ?_)))
  have HX : Hid (w9.heap[w.heap.size + 1]? = some (.cells #[.int .u64 xv, .int .u64 xm, .int .u64 xlo, .int .u64 xhi, .int .i64 xsl, .int .i64 xsh] 28)) := Lib.hid (by rw [← hw]; exact (by repeat (first | (with_reducible refine al_eq _ _ _ ?_; (simp only [size_alloc]; done)) | with_reducible refine al_keep ?_ _ | with_reducible refine dr_keep ?_ | with_reducible refine drN_keep ?_)))
  have HR : Hid (w9.heap[w.heap.size + 1 + 1]? = some (.cells #[.int .u64 0, .int .u64 0, .int .u64 0, .int .u64 0, .int .i64 0, .int .i64 0] 28)) := Lib.hid (by rw [← hw]; exact (by repeat (first | (with_reducible refine al_eq _ _ _ ?_; (simp only [size_alloc]; done)) | with_reducible refine al_keep ?_ _ | with_reducible refine dr_keep ?_ | with_reducible refine drN_keep ?_)))
  have HQ : Hid (w9.heap[w.heap.size + 1 + 1 + 1]? = some (.cells #[.int .u64 0, .int .u64 0, .int .u64 0, .int .u64 0, .int .i64 0, .int .i64 0] 28)) := Lib.hid (by rw [← hw]; exact (by repeat (first | (with_reducible refine al_eq _ _ _ ?_; (simp only [size_alloc]; done)) | with_reducible refine al_keep ?_ _ | with_reducible refine dr_keep ?_ | with_reducible refine drN_keep ?_)))
  have HN : Hid (w9.heap[w.heap.size + 1 + 1 + 1 + 1]? = some (.cells #[.int .u64 0, .int .u64 0, .int .u64 0, .int .u64 0, .int .i64 0, .int .i64 0] 28)) := Lib.hid (by rw [← hw]; exact (by repeat (first | (with_reducible refine al_eq _ _ _ ?_; (simp only [size_alloc]; done)) | with_reducible refine al_keep ?_ _ | with_reducible refine dr_keep ?_ | with_reducible refine drN_keep ?_)))
  have HB : Hid (But [] w w9) := Lib.hid (by rw [← hw]; exact (by repeat (first | with_reducible exact But.refl _ _ | with_reducible refine But.drew ?_ | with_reducible refine drN_but ?_ | with_reducible refine But.alloc ?_ _)))
  clear hw
  have hx := HA.out
  obtain ⟨cA0, cA1, cA2, cA3, cA4, cA5⟩ := c6_of hx
  have zA := lt_of hx
  clear hx
  go_wp2_with fail
  refine (G0.out _).mono ?_
  rintro e w10 ⟨rfl, hb⟩
  have HA := Lib.hid (hb.heap HA.out (by simp))
  have HX := Lib.hid (hb.heap HX.out (by simp))
  have HR := Lib.hid (hb.heap HR.out (by simp))
  have HQ := Lib.hid (hb.heap HQ.out (by simp))
  have HN := Lib.hid (hb.heap HN.out (by simp))
  have HB := Lib.hid (HB.out.trans hb (by simp))
  clear hb
  clear zA cA0 cA1 cA2 cA3 cA4 cA5
  have hx := HX.out
  obtain ⟨cX0, cX1, cX2, cX3, cX4, cX5⟩ := c6_of hx
  have zX := lt_of hx
  clear hx
  go_wp2_with fail
  refine (G1.out _).mono ?_
  rintro e w11 ⟨rfl, hb⟩
  have HA := Lib.hid (hb.heap HA.out (by simp))
  have HX := Lib.hid (hb.heap HX.out (by simp))
  have HR := Lib.hid (hb.heap HR.out (by simp))
  have HQ := Lib.hid (hb.heap HQ.out (by simp))
  have HN := Lib.hid (hb.heap HN.out (by simp))
  have HB := Lib.hid (HB.out.trans hb (by simp))
  clear hb
  clear zX cX0 cX1 cX2 cX3 cX4 cX5
  go_upto_region 3 with (fail)
  have hx := HN.out
  obtain ⟨cN0, cN1, cN2, cN3, cN4, cN5⟩ := c6_of hx
  have zN := lt_of hx
  clear hx
  have hx := HR.out
  obtain ⟨cR0, cR1, cR2, cR3, cR4, cR5⟩ := c6_of hx
  obtain ⟨fR0, fR1, fR2, fR3, fR4, fR5⟩ := f6_of hx
  have zR := lt_of hx
  clear hx
  have hx := HQ.out
  obtain ⟨cQ0, cQ1, cQ2, cQ3, cQ4, cQ5⟩ := c6_of hx
  obtain ⟨fQ0, fQ1, fQ2, fQ3, fQ4, fQ5⟩ := f6_of hx
  have zQ := lt_of hx
  clear hx
  go_region
  all_goals (repeat (first | go_values | go_skip | go_guarded | go_step | go_upon))
  all_goals exact bodyPost_ret (v := .tuple #[.agg #[.int .u64 0, .int .u64 0, .int .u64 0, .int .u64 0, .int .i64 0, .int .i64 0], .agg #[.int .u64 0, .int .u64 0, .int .u64 0, .int .u64 0, .int .i64 0, .int .i64 0], .bool false]) (by simp [results, Try.results18, go_sem, cR0, cR1, cR2, cR3, cR4, cR5, cQ0, cQ1, cQ2, cQ3, cQ4, cQ5]) rfl ⟨by rw [HE.out]; rfl, by
    repeat (first | with_reducible exact HB.out | with_reducible refine But.alloc ?_ _ | with_reducible refine But.drew ?_ | (with_reducible refine But.setCell ?_ (.inr ?_) _; rotate_left; (simp only []; omega)))⟩
set_option maxRecDepth 100000 in
set_option maxHeartbeats 4000000 in
theorem r21br2 (op : Nat) (wide taken : Bool) (v m lo hi xv xm xlo xhi : Nat) (sl sh xsl xsh : Int) (w : World) (hop : op < 256) (hr : Rg ⟨⟨v, m⟩, ⟨lo, hi, sl, sh⟩⟩) (hx : Rg ⟨⟨xv, xm⟩, ⟨xlo, xhi, xsl, xsh⟩⟩) (h0 : rightB ⟨⟨v, m⟩, ⟨lo, hi, sl, sh⟩⟩ = true) (h1 : rightB ⟨⟨xv, xm⟩, ⟨xlo, xhi, xsl, xsh⟩⟩ = true) (h : op = 1) : Calls Try.prog 18 #[.int .u8 (op : Int), .bool wide, .agg #[.int .u64 v, .int .u64 m, .int .u64 lo, .int .u64 hi, .int .i64 sl, .int .i64 sh], .agg #[.int .u64 xv, .int .u64 xm, .int .u64 xlo, .int .u64 xhi, .int .i64 xsl, .int .i64 xsh], .bool taken] w (BrPost (branchT op wide ⟨⟨v, m⟩, ⟨lo, hi, sl, sh⟩⟩ ⟨⟨xv, xm⟩, ⟨xlo, xhi, xsl, xsh⟩⟩ taken) w) := by
  have G0 := Lib.hid (fun w => r19Right0 v m lo hi sl sh w hr)
  have G1 := Lib.hid (fun w => r19Right0 xv xm xlo xhi xsl xsh w hx)
  have G2 := Lib.hid (fun w => r21opp op w)
  have HE : Hid (branchT op wide ⟨⟨v, m⟩, ⟨lo, hi, sl, sh⟩⟩ ⟨⟨xv, xm⟩, ⟨xlo, xhi, xsl, xsh⟩⟩ taken = none) := Lib.hid (by unfold branchT; rw [if_neg (by simp [h, opp])])
  rw [h0] at G0
  rw [h1] at G1
  have e1 : ((op : Int) == 1) = true := by rw [h]; rfl
  clear h0 h1 h hr hx hop G2
  go_enter Try.func18, Try.ntmps18
  go_upto_region 2 with (fail)
  generalize hw : World.alloc _ _ = w9
  have HA : Hid (w9.heap[w.heap.size]? = some (.cells #[.int .u64 v, .int .u64 m, .int .u64 lo, .int .u64 hi, .int .i64 sl, .int .i64 sh] 28)) := Lib.hid (by rw [← hw]; exact (by repeat (first | (with_reducible refine al_eq _ _ _ ?_; (simp only [size_alloc]; done)) | with_reducible refine al_keep ?_ _ | with_reducible refine dr_keep ?_ | with_reducible refine drN_keep ?_)))
  have HX : Hid (w9.heap[w.heap.size + 1]? = some (.cells #[.int .u64 xv, .int .u64 xm, .int .u64 xlo, .int .u64 xhi, .int .i64 xsl, .int .i64 xsh] 28)) := Lib.hid (by rw [← hw]; exact (by repeat (first | (with_reducible refine al_eq _ _ _ ?_; (simp only [size_alloc]; done)) | with_reducible refine al_keep ?_ _ | with_reducible refine dr_keep ?_ | with_reducible refine drN_keep ?_)))
  have HR : Hid (w9.heap[w.heap.size + 1 + 1]? = some (.cells #[.int .u64 0, .int .u64 0, .int .u64 0, .int .u64 0, .int .i64 0, .int .i64 0] 28)) := Lib.hid (by rw [← hw]; exact (by repeat (first | (with_reducible refine al_eq _ _ _ ?_; (simp only [size_alloc]; done)) | with_reducible refine al_keep ?_ _ | with_reducible refine dr_keep ?_ | with_reducible refine drN_keep ?_)))
  have HQ : Hid (w9.heap[w.heap.size + 1 + 1 + 1]? = some (.cells #[.int .u64 0, .int .u64 0, .int .u64 0, .int .u64 0, .int .i64 0, .int .i64 0] 28)) := Lib.hid (by rw [← hw]; exact (by repeat (first | (with_reducible refine al_eq _ _ _ ?_; (simp only [size_alloc]; done)) | with_reducible refine al_keep ?_ _ | with_reducible refine dr_keep ?_ | with_reducible refine drN_keep ?_)))
  have HN : Hid (w9.heap[w.heap.size + 1 + 1 + 1 + 1]? = some (.cells #[.int .u64 0, .int .u64 0, .int .u64 0, .int .u64 0, .int .i64 0, .int .i64 0] 28)) := Lib.hid (by rw [← hw]; exact (by repeat (first | (with_reducible refine al_eq _ _ _ ?_; (simp only [size_alloc]; done)) | with_reducible refine al_keep ?_ _ | with_reducible refine dr_keep ?_ | with_reducible refine drN_keep ?_)))
  have HB : Hid (But [] w w9) := Lib.hid (by rw [← hw]; exact (by repeat (first | with_reducible exact But.refl _ _ | with_reducible refine But.drew ?_ | with_reducible refine drN_but ?_ | with_reducible refine But.alloc ?_ _)))
  clear hw
  have hx := HA.out
  obtain ⟨cA0, cA1, cA2, cA3, cA4, cA5⟩ := c6_of hx
  have zA := lt_of hx
  clear hx
  go_wp2_with fail
  refine (G0.out _).mono ?_
  rintro e w10 ⟨rfl, hb⟩
  have HA := Lib.hid (hb.heap HA.out (by simp))
  have HX := Lib.hid (hb.heap HX.out (by simp))
  have HR := Lib.hid (hb.heap HR.out (by simp))
  have HQ := Lib.hid (hb.heap HQ.out (by simp))
  have HN := Lib.hid (hb.heap HN.out (by simp))
  have HB := Lib.hid (HB.out.trans hb (by simp))
  clear hb
  clear zA cA0 cA1 cA2 cA3 cA4 cA5
  have hx := HX.out
  obtain ⟨cX0, cX1, cX2, cX3, cX4, cX5⟩ := c6_of hx
  have zX := lt_of hx
  clear hx
  go_wp2_with fail
  refine (G1.out _).mono ?_
  rintro e w11 ⟨rfl, hb⟩
  have HA := Lib.hid (hb.heap HA.out (by simp))
  have HX := Lib.hid (hb.heap HX.out (by simp))
  have HR := Lib.hid (hb.heap HR.out (by simp))
  have HQ := Lib.hid (hb.heap HQ.out (by simp))
  have HN := Lib.hid (hb.heap HN.out (by simp))
  have HB := Lib.hid (HB.out.trans hb (by simp))
  clear hb
  clear zX cX0 cX1 cX2 cX3 cX4 cX5
  go_upto_region 3 with (fail)
  have hx := HN.out
  obtain ⟨cN0, cN1, cN2, cN3, cN4, cN5⟩ := c6_of hx
  have zN := lt_of hx
  clear hx
  have hx := HR.out
  obtain ⟨cR0, cR1, cR2, cR3, cR4, cR5⟩ := c6_of hx
  obtain ⟨fR0, fR1, fR2, fR3, fR4, fR5⟩ := f6_of hx
  have zR := lt_of hx
  clear hx
  have hx := HQ.out
  obtain ⟨cQ0, cQ1, cQ2, cQ3, cQ4, cQ5⟩ := c6_of hx
  obtain ⟨fQ0, fQ1, fQ2, fQ3, fQ4, fQ5⟩ := f6_of hx
  have zQ := lt_of hx
  clear hx
  go_region
  all_goals (repeat (first | go_values | go_skip | go_guarded | go_step | go_upon))
  all_goals exact bodyPost_ret (v := .tuple #[.agg #[.int .u64 0, .int .u64 0, .int .u64 0, .int .u64 0, .int .i64 0, .int .i64 0], .agg #[.int .u64 0, .int .u64 0, .int .u64 0, .int .u64 0, .int .i64 0, .int .i64 0], .bool false]) (by simp [results, Try.results18, go_sem, cR0, cR1, cR2, cR3, cR4, cR5, cQ0, cQ1, cQ2, cQ3, cQ4, cQ5]) rfl ⟨by rw [HE.out]; rfl, by
    repeat (first | with_reducible exact HB.out | with_reducible refine But.alloc ?_ _ | with_reducible refine But.drew ?_ | (with_reducible refine But.setCell ?_ (.inr ?_) _; rotate_left; (simp only []; omega)))⟩
set_option maxRecDepth 100000 in
set_option maxHeartbeats 4000000 in
theorem r21br3 (op : Nat) (wide taken : Bool) (v m lo hi xv xm xlo xhi : Nat) (sl sh xsl xsh : Int) (w : World) (hop : op < 256) (hr : Rg ⟨⟨v, m⟩, ⟨lo, hi, sl, sh⟩⟩) (hx : Rg ⟨⟨xv, xm⟩, ⟨xlo, xhi, xsl, xsh⟩⟩) (h0 : rightB ⟨⟨v, m⟩, ⟨lo, hi, sl, sh⟩⟩ = true) (h1 : rightB ⟨⟨xv, xm⟩, ⟨xlo, xhi, xsl, xsh⟩⟩ = true) (h : op ≠ 1) (hz : opp op = 0) : Calls Try.prog 18 #[.int .u8 (op : Int), .bool wide, .agg #[.int .u64 v, .int .u64 m, .int .u64 lo, .int .u64 hi, .int .i64 sl, .int .i64 sh], .agg #[.int .u64 xv, .int .u64 xm, .int .u64 xlo, .int .u64 xhi, .int .i64 xsl, .int .i64 xsh], .bool taken] w (BrPost (branchT op wide ⟨⟨v, m⟩, ⟨lo, hi, sl, sh⟩⟩ ⟨⟨xv, xm⟩, ⟨xlo, xhi, xsl, xsh⟩⟩ taken) w) := by
  have G0 := Lib.hid (fun w => r19Right0 v m lo hi sl sh w hr)
  have G1 := Lib.hid (fun w => r19Right0 xv xm xlo xhi xsl xsh w hx)
  have G2 := Lib.hid (fun w => r21opp op w)
  have HE : Hid (branchT op wide ⟨⟨v, m⟩, ⟨lo, hi, sl, sh⟩⟩ ⟨⟨xv, xm⟩, ⟨xlo, xhi, xsl, xsh⟩⟩ taken = none) := Lib.hid (by unfold branchT; rw [if_neg (by simp [hz])])
  rw [h0] at G0
  rw [h1] at G1
  have e1 : ((op : Int) == 1) = false := by rw [beq_eq_false_iff_ne]; omega
  have hoz : oppR op = 0 := by unfold oppR; rw [if_neg h, hz]
  rw [hoz] at G2
  clear h0 h1 h hz hoz hr hx hop
  go_enter Try.func18, Try.ntmps18
  go_upto_region 2 with (fail)
  generalize hw : World.alloc _ _ = w9
  have HA : Hid (w9.heap[w.heap.size]? = some (.cells #[.int .u64 v, .int .u64 m, .int .u64 lo, .int .u64 hi, .int .i64 sl, .int .i64 sh] 28)) := Lib.hid (by rw [← hw]; exact (by repeat (first | (with_reducible refine al_eq _ _ _ ?_; (simp only [size_alloc]; done)) | with_reducible refine al_keep ?_ _ | with_reducible refine dr_keep ?_ | with_reducible refine drN_keep ?_)))
  have HX : Hid (w9.heap[w.heap.size + 1]? = some (.cells #[.int .u64 xv, .int .u64 xm, .int .u64 xlo, .int .u64 xhi, .int .i64 xsl, .int .i64 xsh] 28)) := Lib.hid (by rw [← hw]; exact (by repeat (first | (with_reducible refine al_eq _ _ _ ?_; (simp only [size_alloc]; done)) | with_reducible refine al_keep ?_ _ | with_reducible refine dr_keep ?_ | with_reducible refine drN_keep ?_)))
  have HR : Hid (w9.heap[w.heap.size + 1 + 1]? = some (.cells #[.int .u64 0, .int .u64 0, .int .u64 0, .int .u64 0, .int .i64 0, .int .i64 0] 28)) := Lib.hid (by rw [← hw]; exact (by repeat (first | (with_reducible refine al_eq _ _ _ ?_; (simp only [size_alloc]; done)) | with_reducible refine al_keep ?_ _ | with_reducible refine dr_keep ?_ | with_reducible refine drN_keep ?_)))
  have HQ : Hid (w9.heap[w.heap.size + 1 + 1 + 1]? = some (.cells #[.int .u64 0, .int .u64 0, .int .u64 0, .int .u64 0, .int .i64 0, .int .i64 0] 28)) := Lib.hid (by rw [← hw]; exact (by repeat (first | (with_reducible refine al_eq _ _ _ ?_; (simp only [size_alloc]; done)) | with_reducible refine al_keep ?_ _ | with_reducible refine dr_keep ?_ | with_reducible refine drN_keep ?_)))
  have HN : Hid (w9.heap[w.heap.size + 1 + 1 + 1 + 1]? = some (.cells #[.int .u64 0, .int .u64 0, .int .u64 0, .int .u64 0, .int .i64 0, .int .i64 0] 28)) := Lib.hid (by rw [← hw]; exact (by repeat (first | (with_reducible refine al_eq _ _ _ ?_; (simp only [size_alloc]; done)) | with_reducible refine al_keep ?_ _ | with_reducible refine dr_keep ?_ | with_reducible refine drN_keep ?_)))
  have HB : Hid (But [] w w9) := Lib.hid (by rw [← hw]; exact (by repeat (first | with_reducible exact But.refl _ _ | with_reducible refine But.drew ?_ | with_reducible refine drN_but ?_ | with_reducible refine But.alloc ?_ _)))
  clear hw
  have hx := HA.out
  obtain ⟨cA0, cA1, cA2, cA3, cA4, cA5⟩ := c6_of hx
  have zA := lt_of hx
  clear hx
  go_wp2_with fail
  refine (G0.out _).mono ?_
  rintro e w10 ⟨rfl, hb⟩
  have HA := Lib.hid (hb.heap HA.out (by simp))
  have HX := Lib.hid (hb.heap HX.out (by simp))
  have HR := Lib.hid (hb.heap HR.out (by simp))
  have HQ := Lib.hid (hb.heap HQ.out (by simp))
  have HN := Lib.hid (hb.heap HN.out (by simp))
  have HB := Lib.hid (HB.out.trans hb (by simp))
  clear hb
  clear zA cA0 cA1 cA2 cA3 cA4 cA5
  have hx := HX.out
  obtain ⟨cX0, cX1, cX2, cX3, cX4, cX5⟩ := c6_of hx
  have zX := lt_of hx
  clear hx
  go_wp2_with fail
  refine (G1.out _).mono ?_
  rintro e w11 ⟨rfl, hb⟩
  have HA := Lib.hid (hb.heap HA.out (by simp))
  have HX := Lib.hid (hb.heap HX.out (by simp))
  have HR := Lib.hid (hb.heap HR.out (by simp))
  have HQ := Lib.hid (hb.heap HQ.out (by simp))
  have HN := Lib.hid (hb.heap HN.out (by simp))
  have HB := Lib.hid (HB.out.trans hb (by simp))
  clear hb
  clear zX cX0 cX1 cX2 cX3 cX4 cX5
  go_wp2_with fail
  refine (G2.out _).mono ?_
  rintro e w12 ⟨rfl, hb⟩
  have HA := Lib.hid (hb.heap HA.out (by simp))
  have HX := Lib.hid (hb.heap HX.out (by simp))
  have HR := Lib.hid (hb.heap HR.out (by simp))
  have HQ := Lib.hid (hb.heap HQ.out (by simp))
  have HN := Lib.hid (hb.heap HN.out (by simp))
  have HB := Lib.hid (HB.out.trans hb (by simp))
  clear hb
  go_upto_region 3 with (fail)
  have hx := HN.out
  obtain ⟨cN0, cN1, cN2, cN3, cN4, cN5⟩ := c6_of hx
  have zN := lt_of hx
  clear hx
  have hx := HR.out
  obtain ⟨cR0, cR1, cR2, cR3, cR4, cR5⟩ := c6_of hx
  obtain ⟨fR0, fR1, fR2, fR3, fR4, fR5⟩ := f6_of hx
  have zR := lt_of hx
  clear hx
  have hx := HQ.out
  obtain ⟨cQ0, cQ1, cQ2, cQ3, cQ4, cQ5⟩ := c6_of hx
  obtain ⟨fQ0, fQ1, fQ2, fQ3, fQ4, fQ5⟩ := f6_of hx
  have zQ := lt_of hx
  clear hx
  go_region
  all_goals (repeat (first | go_values | go_skip | go_guarded | go_step | go_upon))
  all_goals exact bodyPost_ret (v := .tuple #[.agg #[.int .u64 0, .int .u64 0, .int .u64 0, .int .u64 0, .int .i64 0, .int .i64 0], .agg #[.int .u64 0, .int .u64 0, .int .u64 0, .int .u64 0, .int .i64 0, .int .i64 0], .bool false]) (by simp [results, Try.results18, go_sem, cR0, cR1, cR2, cR3, cR4, cR5, cQ0, cQ1, cQ2, cQ3, cQ4, cQ5]) rfl ⟨by rw [HE.out]; rfl, by
    repeat (first | with_reducible exact HB.out | with_reducible refine But.alloc ?_ _ | with_reducible refine But.drew ?_ | (with_reducible refine But.setCell ?_ (.inr ?_) _; rotate_left; (simp only []; omega)))⟩
set_option maxRecDepth 100000 in
set_option maxHeartbeats 4000000 in
theorem r21br4 (op : Nat) (wide taken : Bool) (v m lo hi xv xm xlo xhi : Nat) (sl sh xsl xsh : Int) (w : World) (hop : op < 256) (hr : Rg ⟨⟨v, m⟩, ⟨lo, hi, sl, sh⟩⟩) (hx : Rg ⟨⟨xv, xm⟩, ⟨xlo, xhi, xsl, xsh⟩⟩) (h0 : rightB ⟨⟨v, m⟩, ⟨lo, hi, sl, sh⟩⟩ = true) (h1 : rightB ⟨⟨xv, xm⟩, ⟨xlo, xhi, xsl, xsh⟩⟩ = true) (hz : opp op ≠ 0) (hw : wide = false) (hm : 2147483647 < hi ∨ 2147483647 < xhi) : Calls Try.prog 18 #[.int .u8 (op : Int), .bool wide, .agg #[.int .u64 v, .int .u64 m, .int .u64 lo, .int .u64 hi, .int .i64 sl, .int .i64 sh], .agg #[.int .u64 xv, .int .u64 xm, .int .u64 xlo, .int .u64 xhi, .int .i64 xsl, .int .i64 xsh], .bool taken] w (BrPost (branchT op wide ⟨⟨v, m⟩, ⟨lo, hi, sl, sh⟩⟩ ⟨⟨xv, xm⟩, ⟨xlo, xhi, xsl, xsh⟩⟩ taken) w) := by
  have G0 := Lib.hid (fun w => r19Right0 v m lo hi sl sh w hr)
  have G1 := Lib.hid (fun w => r19Right0 xv xm xlo xhi xsl xsh w hx)
  have G2 := Lib.hid (fun w => r21opp op w)
  have HE : Hid (branchT op wide ⟨⟨v, m⟩, ⟨lo, hi, sl, sh⟩⟩ ⟨⟨xv, xm⟩, ⟨xlo, xhi, xsl, xsh⟩⟩ taken = some (⟨⟨v, m⟩, ⟨lo, hi, sl, sh⟩⟩, ⟨⟨xv, xm⟩, ⟨xlo, xhi, xsl, xsh⟩⟩)) := Lib.hid (by unfold branchT; rw [if_pos (by simp [h0, h1, hz]), if_pos (by simp only [hw]; simp; omega)])
  rw [h0] at G0
  rw [h1] at G1
  have h : op ≠ 1 := fun e => by subst e; exact hz rfl
  have e1 : ((op : Int) == 1) = false := by rw [beq_eq_false_iff_ne]; omega
  have hoz : oppR op = opp op := by unfold oppR; rw [if_neg h]
  rw [hoz] at G2
  obtain ⟨q, hq⟩ : ∃ q, q = opp op := ⟨_, rfl⟩
  rw [← hq] at G2 hz
  have e2 : ((q : Int) == 0) = false := by rw [beq_eq_false_iff_ne]; omega
  subst hw
  clear h0 h1 hz hoz hq h hr hx hop
  go_enter Try.func18, Try.ntmps18
  go_upto_region 2 with (fail)
  generalize hw : World.alloc _ _ = w9
  have HA : Hid (w9.heap[w.heap.size]? = some (.cells #[.int .u64 v, .int .u64 m, .int .u64 lo, .int .u64 hi, .int .i64 sl, .int .i64 sh] 28)) := Lib.hid (by rw [← hw]; exact (by repeat (first | (with_reducible refine al_eq _ _ _ ?_; (simp only [size_alloc]; done)) | with_reducible refine al_keep ?_ _ | with_reducible refine dr_keep ?_ | with_reducible refine drN_keep ?_)))
  have HX : Hid (w9.heap[w.heap.size + 1]? = some (.cells #[.int .u64 xv, .int .u64 xm, .int .u64 xlo, .int .u64 xhi, .int .i64 xsl, .int .i64 xsh] 28)) := Lib.hid (by rw [← hw]; exact (by repeat (first | (with_reducible refine al_eq _ _ _ ?_; (simp only [size_alloc]; done)) | with_reducible refine al_keep ?_ _ | with_reducible refine dr_keep ?_ | with_reducible refine drN_keep ?_)))
  have HR : Hid (w9.heap[w.heap.size + 1 + 1]? = some (.cells #[.int .u64 0, .int .u64 0, .int .u64 0, .int .u64 0, .int .i64 0, .int .i64 0] 28)) := Lib.hid (by rw [← hw]; exact (by repeat (first | (with_reducible refine al_eq _ _ _ ?_; (simp only [size_alloc]; done)) | with_reducible refine al_keep ?_ _ | with_reducible refine dr_keep ?_ | with_reducible refine drN_keep ?_)))
  have HQ : Hid (w9.heap[w.heap.size + 1 + 1 + 1]? = some (.cells #[.int .u64 0, .int .u64 0, .int .u64 0, .int .u64 0, .int .i64 0, .int .i64 0] 28)) := Lib.hid (by rw [← hw]; exact (by repeat (first | (with_reducible refine al_eq _ _ _ ?_; (simp only [size_alloc]; done)) | with_reducible refine al_keep ?_ _ | with_reducible refine dr_keep ?_ | with_reducible refine drN_keep ?_)))
  have HN : Hid (w9.heap[w.heap.size + 1 + 1 + 1 + 1]? = some (.cells #[.int .u64 0, .int .u64 0, .int .u64 0, .int .u64 0, .int .i64 0, .int .i64 0] 28)) := Lib.hid (by rw [← hw]; exact (by repeat (first | (with_reducible refine al_eq _ _ _ ?_; (simp only [size_alloc]; done)) | with_reducible refine al_keep ?_ _ | with_reducible refine dr_keep ?_ | with_reducible refine drN_keep ?_)))
  have HB : Hid (But [] w w9) := Lib.hid (by rw [← hw]; exact (by repeat (first | with_reducible exact But.refl _ _ | with_reducible refine But.drew ?_ | with_reducible refine drN_but ?_ | with_reducible refine But.alloc ?_ _)))
  clear hw
  have hx := HA.out
  obtain ⟨cA0, cA1, cA2, cA3, cA4, cA5⟩ := c6_of hx
  have zA := lt_of hx
  clear hx
  go_wp2_with fail
  refine (G0.out _).mono ?_
  rintro e w10 ⟨rfl, hb⟩
  have HA := Lib.hid (hb.heap HA.out (by simp))
  have HX := Lib.hid (hb.heap HX.out (by simp))
  have HR := Lib.hid (hb.heap HR.out (by simp))
  have HQ := Lib.hid (hb.heap HQ.out (by simp))
  have HN := Lib.hid (hb.heap HN.out (by simp))
  have HB := Lib.hid (HB.out.trans hb (by simp))
  clear hb
  clear zA cA0 cA1 cA2 cA3 cA4 cA5
  have hx := HX.out
  obtain ⟨cX0, cX1, cX2, cX3, cX4, cX5⟩ := c6_of hx
  have zX := lt_of hx
  clear hx
  go_wp2_with fail
  refine (G1.out _).mono ?_
  rintro e w11 ⟨rfl, hb⟩
  have HA := Lib.hid (hb.heap HA.out (by simp))
  have HX := Lib.hid (hb.heap HX.out (by simp))
  have HR := Lib.hid (hb.heap HR.out (by simp))
  have HQ := Lib.hid (hb.heap HQ.out (by simp))
  have HN := Lib.hid (hb.heap HN.out (by simp))
  have HB := Lib.hid (HB.out.trans hb (by simp))
  clear hb
  clear zX cX0 cX1 cX2 cX3 cX4 cX5
  go_wp2_with fail
  refine (G2.out _).mono ?_
  rintro e w12 ⟨rfl, hb⟩
  have HA := Lib.hid (hb.heap HA.out (by simp))
  have HX := Lib.hid (hb.heap HX.out (by simp))
  have HR := Lib.hid (hb.heap HR.out (by simp))
  have HQ := Lib.hid (hb.heap HQ.out (by simp))
  have HN := Lib.hid (hb.heap HN.out (by simp))
  have HB := Lib.hid (HB.out.trans hb (by simp))
  clear hb
  by_cases hA : 2147483647 < hi
  · have e3 : (2147483647 : Int) < (hi : Int) := by omega
    clear hA hm
    have hx := HA.out
    obtain ⟨cA0, cA1, cA2, cA3, cA4, cA5⟩ := c6_of hx
    have zA := lt_of hx
    clear hx
    have hx := HX.out
    obtain ⟨cX0, cX1, cX2, cX3, cX4, cX5⟩ := c6_of hx
    have zX := lt_of hx
    clear hx
    go_upto_region 5 with (fail)
    have hx := HR.out
    obtain ⟨cR0, cR1, cR2, cR3, cR4, cR5⟩ := c6_of hx
    obtain ⟨fR0, fR1, fR2, fR3, fR4, fR5⟩ := f6_of hx
    have zR := lt_of hx
    clear hx
    have hx := HQ.out
    obtain ⟨cQ0, cQ1, cQ2, cQ3, cQ4, cQ5⟩ := c6_of hx
    obtain ⟨fQ0, fQ1, fQ2, fQ3, fQ4, fQ5⟩ := f6_of hx
    have zQ := lt_of hx
    clear hx
    go_region
    all_goals (repeat (first | go_values | go_skip | go_guarded | go_step | go_upon))
    all_goals exact bodyPost_ret (v := .tuple #[.agg #[.int .u64 v, .int .u64 m, .int .u64 lo, .int .u64 hi, .int .i64 sl, .int .i64 sh], .agg #[.int .u64 xv, .int .u64 xm, .int .u64 xlo, .int .u64 xhi, .int .i64 xsl, .int .i64 xsh], .bool true]) (by simp [results, Try.results18, go_sem, cR0, cR1, cR2, cR3, cR4, cR5, cQ0, cQ1, cQ2, cQ3, cQ4, cQ5]) rfl ⟨by rw [HE.out]; rfl, by
    repeat (first | with_reducible exact HB.out | with_reducible refine But.alloc ?_ _ | with_reducible refine But.drew ?_ | (with_reducible refine But.setCell ?_ (.inr ?_) _; rotate_left; (simp only []; omega)))⟩
  · have e3 : ¬ (2147483647 : Int) < (hi : Int) := by omega
    have e4 : (2147483647 : Int) < (xhi : Int) := by omega
    clear hA hm
    have hx := HA.out
    obtain ⟨cA0, cA1, cA2, cA3, cA4, cA5⟩ := c6_of hx
    have zA := lt_of hx
    clear hx
    have hx := HX.out
    obtain ⟨cX0, cX1, cX2, cX3, cX4, cX5⟩ := c6_of hx
    have zX := lt_of hx
    clear hx
    go_upto_region 5 with (fail)
    have hx := HR.out
    obtain ⟨cR0, cR1, cR2, cR3, cR4, cR5⟩ := c6_of hx
    obtain ⟨fR0, fR1, fR2, fR3, fR4, fR5⟩ := f6_of hx
    have zR := lt_of hx
    clear hx
    have hx := HQ.out
    obtain ⟨cQ0, cQ1, cQ2, cQ3, cQ4, cQ5⟩ := c6_of hx
    obtain ⟨fQ0, fQ1, fQ2, fQ3, fQ4, fQ5⟩ := f6_of hx
    have zQ := lt_of hx
    clear hx
    go_region
    all_goals (repeat (first | go_values | go_skip | go_guarded | go_step | go_upon))
    all_goals exact bodyPost_ret (v := .tuple #[.agg #[.int .u64 v, .int .u64 m, .int .u64 lo, .int .u64 hi, .int .i64 sl, .int .i64 sh], .agg #[.int .u64 xv, .int .u64 xm, .int .u64 xlo, .int .u64 xhi, .int .i64 xsl, .int .i64 xsh], .bool true]) (by simp [results, Try.results18, go_sem, cR0, cR1, cR2, cR3, cR4, cR5, cQ0, cQ1, cQ2, cQ3, cQ4, cQ5]) rfl ⟨by rw [HE.out]; rfl, by
    repeat (first | with_reducible exact HB.out | with_reducible refine But.alloc ?_ _ | with_reducible refine But.drew ?_ | (with_reducible refine But.setCell ?_ (.inr ?_) _; rotate_left; (simp only []; omega)))⟩
set_option maxRecDepth 100000 in
set_option maxHeartbeats 4000000 in
theorem r21br5 (op : Nat) (wide taken : Bool) (v m lo hi xv xm xlo xhi : Nat) (sl sh xsl xsh : Int) (w : World) (hop : op < 256) (hr : Rg ⟨⟨v, m⟩, ⟨lo, hi, sl, sh⟩⟩) (hx : Rg ⟨⟨xv, xm⟩, ⟨xlo, xhi, xsl, xsh⟩⟩) (h0 : rightB ⟨⟨v, m⟩, ⟨lo, hi, sl, sh⟩⟩ = true) (h1 : rightB ⟨⟨xv, xm⟩, ⟨xlo, xhi, xsl, xsh⟩⟩ = true) (hz : opp op ≠ 0) (hw : wide = true ∨ (hi ≤ 2147483647 ∧ xhi ≤ 2147483647)) : Calls Try.prog 18 #[.int .u8 (op : Int), .bool wide, .agg #[.int .u64 v, .int .u64 m, .int .u64 lo, .int .u64 hi, .int .i64 sl, .int .i64 sh], .agg #[.int .u64 xv, .int .u64 xm, .int .u64 xlo, .int .u64 xhi, .int .i64 xsl, .int .i64 xsh], .bool taken] w (BrPost (branchT op wide ⟨⟨v, m⟩, ⟨lo, hi, sl, sh⟩⟩ ⟨⟨xv, xm⟩, ⟨xlo, xhi, xsl, xsh⟩⟩ taken) w) := by
  have G0 := Lib.hid (fun w => r19Right0 v m lo hi sl sh w hr)
  have G1 := Lib.hid (fun w => r19Right0 xv xm xlo xhi xsl xsh w hx)
  have G2 := Lib.hid (fun w => r21opp op w)
  have HE0 : branchT op wide ⟨⟨v, m⟩, ⟨lo, hi, sl, sh⟩⟩ ⟨⟨xv, xm⟩, ⟨xlo, xhi, xsl, xsh⟩⟩ taken = holdT (if taken then op else opp op) ⟨⟨v, m⟩, ⟨lo, hi, sl, sh⟩⟩ ⟨⟨xv, xm⟩, ⟨xlo, xhi, xsl, xsh⟩⟩ := by unfold branchT; rw [if_pos (by simp [h0, h1, hz]), if_neg (not_big hw)]
  have fa := ((right_iff hr).1 h0).wf.i
  have fb := ((right_iff hx).1 h1).wf.i
  simp only at fa fb
  rw [h0] at G0
  rw [h1] at G1
  have h : op ≠ 1 := fun e => by subst e; exact hz rfl
  have e1 : ((op : Int) == 1) = false := by rw [beq_eq_false_iff_ne]; omega
  have hoz : oppR op = opp op := by unfold oppR; rw [if_neg h]
  rw [hoz] at G2
  obtain ⟨q, hq⟩ : ∃ q, q = opp op := ⟨_, rfl⟩
  obtain ⟨p, hp⟩ : ∃ p, p = if taken then op else opp op := ⟨_, rfl⟩
  have hpo : p = 16 ∨ p = 80 ∨ p = 32 ∨ p = 176 ∨ p = 48 ∨ p = 160 ∨ p = 96 ∨ p = 208 ∨ p = 112 ∨ p = 192 ∨ p = 64 ∨ p = 1 := by rw [hp]; rcases opp_cases hz with rfl | rfl | rfl | rfl | rfl | rfl | rfl | rfl | rfl | rfl | rfl <;> cases taken <;> decide
  have G3 := Lib.hid (fun w => r21holds v m lo hi xv xm xlo xhi sl sh xsl xsh p hpo hr hx fa fb w)
  rw [← hp] at HE0
  obtain ⟨T, hT⟩ : ∃ T, T = holdT p ⟨⟨v, m⟩, ⟨lo, hi, sl, sh⟩⟩ ⟨⟨xv, xm⟩, ⟨xlo, xhi, xsl, xsh⟩⟩ := ⟨_, rfl⟩
  rw [← hT] at G3 HE0
  have HE := Lib.hid HE0
  have HP := Lib.hid hp
  have HQ0 := Lib.hid hq
  rw [← hq] at G2 hz
  have e2 : ((q : Int) == 0) = false := by rw [beq_eq_false_iff_ne]; omega
  clear HE0 hT h0 h1 hz hoz hq h hp hpo fa fb hr hx hop
  go_enter Try.func18, Try.ntmps18
  go_upto_region 2 with (fail)
  generalize hw : World.alloc _ _ = w9
  have HA : Hid (w9.heap[w.heap.size]? = some (.cells #[.int .u64 v, .int .u64 m, .int .u64 lo, .int .u64 hi, .int .i64 sl, .int .i64 sh] 28)) := Lib.hid (by rw [← hw]; exact (by repeat (first | (with_reducible refine al_eq _ _ _ ?_; (simp only [size_alloc]; done)) | with_reducible refine al_keep ?_ _ | with_reducible refine dr_keep ?_ | with_reducible refine drN_keep ?_)))
  have HX : Hid (w9.heap[w.heap.size + 1]? = some (.cells #[.int .u64 xv, .int .u64 xm, .int .u64 xlo, .int .u64 xhi, .int .i64 xsl, .int .i64 xsh] 28)) := Lib.hid (by rw [← hw]; exact (by repeat (first | (with_reducible refine al_eq _ _ _ ?_; (simp only [size_alloc]; done)) | with_reducible refine al_keep ?_ _ | with_reducible refine dr_keep ?_ | with_reducible refine drN_keep ?_)))
  have HR : Hid (w9.heap[w.heap.size + 1 + 1]? = some (.cells #[.int .u64 0, .int .u64 0, .int .u64 0, .int .u64 0, .int .i64 0, .int .i64 0] 28)) := Lib.hid (by rw [← hw]; exact (by repeat (first | (with_reducible refine al_eq _ _ _ ?_; (simp only [size_alloc]; done)) | with_reducible refine al_keep ?_ _ | with_reducible refine dr_keep ?_ | with_reducible refine drN_keep ?_)))
  have HQ : Hid (w9.heap[w.heap.size + 1 + 1 + 1]? = some (.cells #[.int .u64 0, .int .u64 0, .int .u64 0, .int .u64 0, .int .i64 0, .int .i64 0] 28)) := Lib.hid (by rw [← hw]; exact (by repeat (first | (with_reducible refine al_eq _ _ _ ?_; (simp only [size_alloc]; done)) | with_reducible refine al_keep ?_ _ | with_reducible refine dr_keep ?_ | with_reducible refine drN_keep ?_)))
  have HN : Hid (w9.heap[w.heap.size + 1 + 1 + 1 + 1]? = some (.cells #[.int .u64 0, .int .u64 0, .int .u64 0, .int .u64 0, .int .i64 0, .int .i64 0] 28)) := Lib.hid (by rw [← hw]; exact (by repeat (first | (with_reducible refine al_eq _ _ _ ?_; (simp only [size_alloc]; done)) | with_reducible refine al_keep ?_ _ | with_reducible refine dr_keep ?_ | with_reducible refine drN_keep ?_)))
  have HB : Hid (But [] w w9) := Lib.hid (by rw [← hw]; exact (by repeat (first | with_reducible exact But.refl _ _ | with_reducible refine But.drew ?_ | with_reducible refine drN_but ?_ | with_reducible refine But.alloc ?_ _)))
  clear hw
  have hx := HA.out
  obtain ⟨cA0, cA1, cA2, cA3, cA4, cA5⟩ := c6_of hx
  have zA := lt_of hx
  clear hx
  go_wp2_with fail
  refine (G0.out _).mono ?_
  rintro e w10 ⟨rfl, hb⟩
  have HA := Lib.hid (hb.heap HA.out (by simp))
  have HX := Lib.hid (hb.heap HX.out (by simp))
  have HR := Lib.hid (hb.heap HR.out (by simp))
  have HQ := Lib.hid (hb.heap HQ.out (by simp))
  have HN := Lib.hid (hb.heap HN.out (by simp))
  have HB := Lib.hid (HB.out.trans hb (by simp))
  clear hb
  clear zA cA0 cA1 cA2 cA3 cA4 cA5
  have hx := HX.out
  obtain ⟨cX0, cX1, cX2, cX3, cX4, cX5⟩ := c6_of hx
  have zX := lt_of hx
  clear hx
  go_wp2_with fail
  refine (G1.out _).mono ?_
  rintro e w11 ⟨rfl, hb⟩
  have HA := Lib.hid (hb.heap HA.out (by simp))
  have HX := Lib.hid (hb.heap HX.out (by simp))
  have HR := Lib.hid (hb.heap HR.out (by simp))
  have HQ := Lib.hid (hb.heap HQ.out (by simp))
  have HN := Lib.hid (hb.heap HN.out (by simp))
  have HB := Lib.hid (HB.out.trans hb (by simp))
  clear hb
  clear zX cX0 cX1 cX2 cX3 cX4 cX5
  go_wp2_with fail
  refine (G2.out _).mono ?_
  rintro e w12 ⟨rfl, hb⟩
  have HA := Lib.hid (hb.heap HA.out (by simp))
  have HX := Lib.hid (hb.heap HX.out (by simp))
  have HR := Lib.hid (hb.heap HR.out (by simp))
  have HQ := Lib.hid (hb.heap HQ.out (by simp))
  have HN := Lib.hid (hb.heap HN.out (by simp))
  have HB := Lib.hid (HB.out.trans hb (by simp))
  clear hb
  cases taken with
  | true =>
    have hpe : p = op := by rw [HP.out]; rfl
    subst hpe
    clear HP
    cases hwd : wide with
    | true =>
      subst hwd
      clear hw
      cases T with
      | none =>
        have hx := HA.out
        obtain ⟨cA0, cA1, cA2, cA3, cA4, cA5⟩ := c6_of hx
        have zA := lt_of hx
        clear hx
        have hx := HX.out
        obtain ⟨cX0, cX1, cX2, cX3, cX4, cX5⟩ := c6_of hx
        have zX := lt_of hx
        clear hx
        go_wp2_with fail
        refine (G3.out _).mono ?_
        rintro e w15 ⟨⟨⟨gv, gm⟩, ⟨gl, gh, gi, gj⟩⟩, ⟨⟨dv, dm⟩, ⟨dl, dh, di, dj⟩⟩, rfl, hc1, hb⟩
        have HR := Lib.hid (hb.heap HR.out (by simp))
        have HQ := Lib.hid (hb.heap HQ.out (by simp))
        have HN := Lib.hid (hb.heap HN.out (by simp))
        have HB := Lib.hid (HB.out.trans hb (by simp))
        clear hb HA HX
        clear zA cA0 cA1 cA2 cA3 cA4 cA5 zX cX0 cX1 cX2 cX3 cX4 cX5
        clear hc1
        simp only [Sc.val, Option.isSome]
        have hz15 := lt_of HN.out
        go_upto_region 9 with (fail)
        generalize hw : World.alloc (World.alloc w15 _) _ = w16
        have HM : Hid (w16.heap[w15.heap.size]? = some (.cells #[.int .u64 gv, .int .u64 gm, .int .u64 gl, .int .u64 gh, .int .i64 gi, .int .i64 gj] 28)) := Lib.hid (by rw [← hw]; exact al_keep (al_at _ _) _)
        have HK : Hid (w16.heap[w15.heap.size + 1]? = some (.cells #[.int .u64 dv, .int .u64 dm, .int .u64 dl, .int .u64 dh, .int .i64 di, .int .i64 dj] 28)) := Lib.hid (by rw [← hw]; exact al_eq _ _ _ (by simp only [size_alloc]))
        have HR := Lib.hid (show w16.heap[w.heap.size + 1 + 1]? = some (.cells #[.int .u64 0, .int .u64 0, .int .u64 0, .int .u64 0, .int .i64 0, .int .i64 0] 28) from by rw [← hw]; exact al_keep (al_keep HR.out _) _)
        have HQ := Lib.hid (show w16.heap[w.heap.size + 1 + 1 + 1]? = some (.cells #[.int .u64 0, .int .u64 0, .int .u64 0, .int .u64 0, .int .i64 0, .int .i64 0] 28) from by rw [← hw]; exact al_keep (al_keep HQ.out _) _)
        have HN := Lib.hid (show w16.heap[w.heap.size + 1 + 1 + 1 + 1]? = some (.cells #[.int .u64 0, .int .u64 0, .int .u64 0, .int .u64 0, .int .i64 0, .int .i64 0] 28) from by rw [← hw]; exact al_keep (al_keep HN.out _) _)
        have HB := Lib.hid (show But [] w w16 from by rw [← hw]; exact (HB.out.alloc _).alloc _)
        clear hw
        go_upto_region 10 with (fail)
        have hx := HN.out
        obtain ⟨cN0, cN1, cN2, cN3, cN4, cN5⟩ := c6_of hx
        have zN := lt_of hx
        clear hx
        have hx := HR.out
        obtain ⟨cR0, cR1, cR2, cR3, cR4, cR5⟩ := c6_of hx
        obtain ⟨fR0, fR1, fR2, fR3, fR4, fR5⟩ := f6_of hx
        have zR := lt_of hx
        clear hx
        have hx := HQ.out
        obtain ⟨cQ0, cQ1, cQ2, cQ3, cQ4, cQ5⟩ := c6_of hx
        obtain ⟨fQ0, fQ1, fQ2, fQ3, fQ4, fQ5⟩ := f6_of hx
        have zQ := lt_of hx
        clear hx
        go_region
        all_goals (repeat (first | go_values | go_skip | go_guarded | go_step | go_upon))
        all_goals exact bodyPost_ret (v := .tuple #[.agg #[.int .u64 0, .int .u64 0, .int .u64 0, .int .u64 0, .int .i64 0, .int .i64 0], .agg #[.int .u64 0, .int .u64 0, .int .u64 0, .int .u64 0, .int .i64 0, .int .i64 0], .bool false]) (by simp [results, Try.results18, go_sem, cR0, cR1, cR2, cR3, cR4, cR5, cQ0, cQ1, cQ2, cQ3, cQ4, cQ5]) rfl ⟨by rw [HE.out]; rfl, by
    repeat (first | with_reducible exact HB.out | with_reducible refine But.alloc ?_ _ | with_reducible refine But.drew ?_ | (with_reducible refine But.setCell ?_ (.inr ?_) _; rotate_left; (simp only []; omega)))⟩
      | some x =>
        have hx := HA.out
        obtain ⟨cA0, cA1, cA2, cA3, cA4, cA5⟩ := c6_of hx
        have zA := lt_of hx
        clear hx
        have hx := HX.out
        obtain ⟨cX0, cX1, cX2, cX3, cX4, cX5⟩ := c6_of hx
        have zX := lt_of hx
        clear hx
        go_wp2_with fail
        refine (G3.out _).mono ?_
        rintro e w15 ⟨⟨⟨gv, gm⟩, ⟨gl, gh, gi, gj⟩⟩, ⟨⟨dv, dm⟩, ⟨dl, dh, di, dj⟩⟩, rfl, hc1, hb⟩
        have HR := Lib.hid (hb.heap HR.out (by simp))
        have HQ := Lib.hid (hb.heap HQ.out (by simp))
        have HN := Lib.hid (hb.heap HN.out (by simp))
        have HB := Lib.hid (HB.out.trans hb (by simp))
        clear hb HA HX
        clear zA cA0 cA1 cA2 cA3 cA4 cA5 zX cX0 cX1 cX2 cX3 cX4 cX5
        have hcc := hc1 _ rfl
        have HCC := Lib.hid hcc
        clear hc1 hcc
        simp only [Sc.val, Option.isSome]
        have hz15 := lt_of HN.out
        go_upto_region 9 with (fail)
        generalize hw : World.alloc (World.alloc w15 _) _ = w16
        have HM : Hid (w16.heap[w15.heap.size]? = some (.cells #[.int .u64 gv, .int .u64 gm, .int .u64 gl, .int .u64 gh, .int .i64 gi, .int .i64 gj] 28)) := Lib.hid (by rw [← hw]; exact al_keep (al_at _ _) _)
        have HK : Hid (w16.heap[w15.heap.size + 1]? = some (.cells #[.int .u64 dv, .int .u64 dm, .int .u64 dl, .int .u64 dh, .int .i64 di, .int .i64 dj] 28)) := Lib.hid (by rw [← hw]; exact al_eq _ _ _ (by simp only [size_alloc]))
        have HR := Lib.hid (show w16.heap[w.heap.size + 1 + 1]? = some (.cells #[.int .u64 0, .int .u64 0, .int .u64 0, .int .u64 0, .int .i64 0, .int .i64 0] 28) from by rw [← hw]; exact al_keep (al_keep HR.out _) _)
        have HQ := Lib.hid (show w16.heap[w.heap.size + 1 + 1 + 1]? = some (.cells #[.int .u64 0, .int .u64 0, .int .u64 0, .int .u64 0, .int .i64 0, .int .i64 0] 28) from by rw [← hw]; exact al_keep (al_keep HQ.out _) _)
        have HN := Lib.hid (show w16.heap[w.heap.size + 1 + 1 + 1 + 1]? = some (.cells #[.int .u64 0, .int .u64 0, .int .u64 0, .int .u64 0, .int .i64 0, .int .i64 0] 28) from by rw [← hw]; exact al_keep (al_keep HN.out _) _)
        have HB := Lib.hid (show But [] w w16 from by rw [← hw]; exact (HB.out.alloc _).alloc _)
        clear hw
        go_upto_region 11 with (fail)
        have hx := HM.out
        obtain ⟨cM0, cM1, cM2, cM3, cM4, cM5⟩ := c6_of hx
        have zM := lt_of hx
        clear hx
        have hx := HK.out
        obtain ⟨cK0, cK1, cK2, cK3, cK4, cK5⟩ := c6_of hx
        have zK := lt_of hx
        clear hx
        have hx := HR.out
        obtain ⟨cR0, cR1, cR2, cR3, cR4, cR5⟩ := c6_of hx
        obtain ⟨fR0, fR1, fR2, fR3, fR4, fR5⟩ := f6_of hx
        have zR := lt_of hx
        clear hx
        have hx := HQ.out
        obtain ⟨cQ0, cQ1, cQ2, cQ3, cQ4, cQ5⟩ := c6_of hx
        obtain ⟨fQ0, fQ1, fQ2, fQ3, fQ4, fQ5⟩ := f6_of hx
        have zQ := lt_of hx
        clear hx
        go_region
        all_goals (repeat (first | go_values | go_skip | go_guarded | go_step | go_upon))
        all_goals exact bodyPost_ret (v := .tuple #[.agg #[.int .u64 gv, .int .u64 gm, .int .u64 gl, .int .u64 gh, .int .i64 gi, .int .i64 gj], .agg #[.int .u64 dv, .int .u64 dm, .int .u64 dl, .int .u64 dh, .int .i64 di, .int .i64 dj], .bool true]) (by simp [results, Try.results18, go_sem, cR0, cR1, cR2, cR3, cR4, cR5, cQ0, cQ1, cQ2, cQ3, cQ4, cQ5]) rfl ⟨by rw [HE.out, HCC.out]; rfl, by
    repeat (first | with_reducible exact HB.out | with_reducible refine But.alloc ?_ _ | with_reducible refine But.drew ?_ | (with_reducible refine But.setCell ?_ (.inr ?_) _; rotate_left; (simp only []; omega)))⟩
    | false =>
      subst hwd
      have hw2 := hw.resolve_left (by decide)
      have e3 : ¬ (2147483647 : Int) < (hi : Int) := by omega
      have e4 : ¬ (2147483647 : Int) < (xhi : Int) := by omega
      clear hw hw2
      cases T with
      | none =>
        have hx := HA.out
        obtain ⟨cA0, cA1, cA2, cA3, cA4, cA5⟩ := c6_of hx
        have zA := lt_of hx
        clear hx
        have hx := HX.out
        obtain ⟨cX0, cX1, cX2, cX3, cX4, cX5⟩ := c6_of hx
        have zX := lt_of hx
        clear hx
        go_wp2_with fail
        refine (G3.out _).mono ?_
        rintro e w15 ⟨⟨⟨gv, gm⟩, ⟨gl, gh, gi, gj⟩⟩, ⟨⟨dv, dm⟩, ⟨dl, dh, di, dj⟩⟩, rfl, hc1, hb⟩
        have HR := Lib.hid (hb.heap HR.out (by simp))
        have HQ := Lib.hid (hb.heap HQ.out (by simp))
        have HN := Lib.hid (hb.heap HN.out (by simp))
        have HB := Lib.hid (HB.out.trans hb (by simp))
        clear hb HA HX
        clear zA cA0 cA1 cA2 cA3 cA4 cA5 zX cX0 cX1 cX2 cX3 cX4 cX5
        clear hc1
        simp only [Sc.val, Option.isSome]
        have hz15 := lt_of HN.out
        go_upto_region 9 with (fail)
        generalize hw : World.alloc (World.alloc w15 _) _ = w16
        have HM : Hid (w16.heap[w15.heap.size]? = some (.cells #[.int .u64 gv, .int .u64 gm, .int .u64 gl, .int .u64 gh, .int .i64 gi, .int .i64 gj] 28)) := Lib.hid (by rw [← hw]; exact al_keep (al_at _ _) _)
        have HK : Hid (w16.heap[w15.heap.size + 1]? = some (.cells #[.int .u64 dv, .int .u64 dm, .int .u64 dl, .int .u64 dh, .int .i64 di, .int .i64 dj] 28)) := Lib.hid (by rw [← hw]; exact al_eq _ _ _ (by simp only [size_alloc]))
        have HR := Lib.hid (show w16.heap[w.heap.size + 1 + 1]? = some (.cells #[.int .u64 0, .int .u64 0, .int .u64 0, .int .u64 0, .int .i64 0, .int .i64 0] 28) from by rw [← hw]; exact al_keep (al_keep HR.out _) _)
        have HQ := Lib.hid (show w16.heap[w.heap.size + 1 + 1 + 1]? = some (.cells #[.int .u64 0, .int .u64 0, .int .u64 0, .int .u64 0, .int .i64 0, .int .i64 0] 28) from by rw [← hw]; exact al_keep (al_keep HQ.out _) _)
        have HN := Lib.hid (show w16.heap[w.heap.size + 1 + 1 + 1 + 1]? = some (.cells #[.int .u64 0, .int .u64 0, .int .u64 0, .int .u64 0, .int .i64 0, .int .i64 0] 28) from by rw [← hw]; exact al_keep (al_keep HN.out _) _)
        have HB := Lib.hid (show But [] w w16 from by rw [← hw]; exact (HB.out.alloc _).alloc _)
        clear hw
        go_upto_region 10 with (fail)
        have hx := HN.out
        obtain ⟨cN0, cN1, cN2, cN3, cN4, cN5⟩ := c6_of hx
        have zN := lt_of hx
        clear hx
        have hx := HR.out
        obtain ⟨cR0, cR1, cR2, cR3, cR4, cR5⟩ := c6_of hx
        obtain ⟨fR0, fR1, fR2, fR3, fR4, fR5⟩ := f6_of hx
        have zR := lt_of hx
        clear hx
        have hx := HQ.out
        obtain ⟨cQ0, cQ1, cQ2, cQ3, cQ4, cQ5⟩ := c6_of hx
        obtain ⟨fQ0, fQ1, fQ2, fQ3, fQ4, fQ5⟩ := f6_of hx
        have zQ := lt_of hx
        clear hx
        go_region
        all_goals (repeat (first | go_values | go_skip | go_guarded | go_step | go_upon))
        all_goals exact bodyPost_ret (v := .tuple #[.agg #[.int .u64 0, .int .u64 0, .int .u64 0, .int .u64 0, .int .i64 0, .int .i64 0], .agg #[.int .u64 0, .int .u64 0, .int .u64 0, .int .u64 0, .int .i64 0, .int .i64 0], .bool false]) (by simp [results, Try.results18, go_sem, cR0, cR1, cR2, cR3, cR4, cR5, cQ0, cQ1, cQ2, cQ3, cQ4, cQ5]) rfl ⟨by rw [HE.out]; rfl, by
    repeat (first | with_reducible exact HB.out | with_reducible refine But.alloc ?_ _ | with_reducible refine But.drew ?_ | (with_reducible refine But.setCell ?_ (.inr ?_) _; rotate_left; (simp only []; omega)))⟩
      | some x =>
        have hx := HA.out
        obtain ⟨cA0, cA1, cA2, cA3, cA4, cA5⟩ := c6_of hx
        have zA := lt_of hx
        clear hx
        have hx := HX.out
        obtain ⟨cX0, cX1, cX2, cX3, cX4, cX5⟩ := c6_of hx
        have zX := lt_of hx
        clear hx
        go_wp2_with fail
        refine (G3.out _).mono ?_
        rintro e w15 ⟨⟨⟨gv, gm⟩, ⟨gl, gh, gi, gj⟩⟩, ⟨⟨dv, dm⟩, ⟨dl, dh, di, dj⟩⟩, rfl, hc1, hb⟩
        have HR := Lib.hid (hb.heap HR.out (by simp))
        have HQ := Lib.hid (hb.heap HQ.out (by simp))
        have HN := Lib.hid (hb.heap HN.out (by simp))
        have HB := Lib.hid (HB.out.trans hb (by simp))
        clear hb HA HX
        clear zA cA0 cA1 cA2 cA3 cA4 cA5 zX cX0 cX1 cX2 cX3 cX4 cX5
        have hcc := hc1 _ rfl
        have HCC := Lib.hid hcc
        clear hc1 hcc
        simp only [Sc.val, Option.isSome]
        have hz15 := lt_of HN.out
        go_upto_region 9 with (fail)
        generalize hw : World.alloc (World.alloc w15 _) _ = w16
        have HM : Hid (w16.heap[w15.heap.size]? = some (.cells #[.int .u64 gv, .int .u64 gm, .int .u64 gl, .int .u64 gh, .int .i64 gi, .int .i64 gj] 28)) := Lib.hid (by rw [← hw]; exact al_keep (al_at _ _) _)
        have HK : Hid (w16.heap[w15.heap.size + 1]? = some (.cells #[.int .u64 dv, .int .u64 dm, .int .u64 dl, .int .u64 dh, .int .i64 di, .int .i64 dj] 28)) := Lib.hid (by rw [← hw]; exact al_eq _ _ _ (by simp only [size_alloc]))
        have HR := Lib.hid (show w16.heap[w.heap.size + 1 + 1]? = some (.cells #[.int .u64 0, .int .u64 0, .int .u64 0, .int .u64 0, .int .i64 0, .int .i64 0] 28) from by rw [← hw]; exact al_keep (al_keep HR.out _) _)
        have HQ := Lib.hid (show w16.heap[w.heap.size + 1 + 1 + 1]? = some (.cells #[.int .u64 0, .int .u64 0, .int .u64 0, .int .u64 0, .int .i64 0, .int .i64 0] 28) from by rw [← hw]; exact al_keep (al_keep HQ.out _) _)
        have HN := Lib.hid (show w16.heap[w.heap.size + 1 + 1 + 1 + 1]? = some (.cells #[.int .u64 0, .int .u64 0, .int .u64 0, .int .u64 0, .int .i64 0, .int .i64 0] 28) from by rw [← hw]; exact al_keep (al_keep HN.out _) _)
        have HB := Lib.hid (show But [] w w16 from by rw [← hw]; exact (HB.out.alloc _).alloc _)
        clear hw
        go_upto_region 11 with (fail)
        have hx := HM.out
        obtain ⟨cM0, cM1, cM2, cM3, cM4, cM5⟩ := c6_of hx
        have zM := lt_of hx
        clear hx
        have hx := HK.out
        obtain ⟨cK0, cK1, cK2, cK3, cK4, cK5⟩ := c6_of hx
        have zK := lt_of hx
        clear hx
        have hx := HR.out
        obtain ⟨cR0, cR1, cR2, cR3, cR4, cR5⟩ := c6_of hx
        obtain ⟨fR0, fR1, fR2, fR3, fR4, fR5⟩ := f6_of hx
        have zR := lt_of hx
        clear hx
        have hx := HQ.out
        obtain ⟨cQ0, cQ1, cQ2, cQ3, cQ4, cQ5⟩ := c6_of hx
        obtain ⟨fQ0, fQ1, fQ2, fQ3, fQ4, fQ5⟩ := f6_of hx
        have zQ := lt_of hx
        clear hx
        go_region
        all_goals (repeat (first | go_values | go_skip | go_guarded | go_step | go_upon))
        all_goals exact bodyPost_ret (v := .tuple #[.agg #[.int .u64 gv, .int .u64 gm, .int .u64 gl, .int .u64 gh, .int .i64 gi, .int .i64 gj], .agg #[.int .u64 dv, .int .u64 dm, .int .u64 dl, .int .u64 dh, .int .i64 di, .int .i64 dj], .bool true]) (by simp [results, Try.results18, go_sem, cR0, cR1, cR2, cR3, cR4, cR5, cQ0, cQ1, cQ2, cQ3, cQ4, cQ5]) rfl ⟨by rw [HE.out, HCC.out]; rfl, by
    repeat (first | with_reducible exact HB.out | with_reducible refine But.alloc ?_ _ | with_reducible refine But.drew ?_ | (with_reducible refine But.setCell ?_ (.inr ?_) _; rotate_left; (simp only []; omega)))⟩
  | false =>
    have hpe : p = q := by rw [HP.out, HQ0.out]; rfl
    subst hpe
    have G4 := Lib.hid G2.out
    clear HP
    cases hwd : wide with
    | true =>
      subst hwd
      clear hw
      cases T with
      | none =>
        have hx := HA.out
        obtain ⟨cA0, cA1, cA2, cA3, cA4, cA5⟩ := c6_of hx
        have zA := lt_of hx
        clear hx
        have hx := HX.out
        obtain ⟨cX0, cX1, cX2, cX3, cX4, cX5⟩ := c6_of hx
        have zX := lt_of hx
        clear hx
        go_wp2_with fail
        refine (G4.out _).mono ?_
        rintro e w13 ⟨rfl, hb⟩
        have HA := Lib.hid (hb.heap HA.out (by simp))
        have HX := Lib.hid (hb.heap HX.out (by simp))
        have HR := Lib.hid (hb.heap HR.out (by simp))
        have HQ := Lib.hid (hb.heap HQ.out (by simp))
        have HN := Lib.hid (hb.heap HN.out (by simp))
        have HB := Lib.hid (HB.out.trans hb (by simp))
        clear hb
        clear zA cA0 cA1 cA2 cA3 cA4 cA5 zX cX0 cX1 cX2 cX3 cX4 cX5
        have hx := HA.out
        obtain ⟨cA0, cA1, cA2, cA3, cA4, cA5⟩ := c6_of hx
        have zA := lt_of hx
        clear hx
        have hx := HX.out
        obtain ⟨cX0, cX1, cX2, cX3, cX4, cX5⟩ := c6_of hx
        have zX := lt_of hx
        clear hx
        go_wp2_with fail
        refine (G3.out _).mono ?_
        rintro e w15 ⟨⟨⟨gv, gm⟩, ⟨gl, gh, gi, gj⟩⟩, ⟨⟨dv, dm⟩, ⟨dl, dh, di, dj⟩⟩, rfl, hc1, hb⟩
        have HR := Lib.hid (hb.heap HR.out (by simp))
        have HQ := Lib.hid (hb.heap HQ.out (by simp))
        have HN := Lib.hid (hb.heap HN.out (by simp))
        have HB := Lib.hid (HB.out.trans hb (by simp))
        clear hb HA HX
        clear zA cA0 cA1 cA2 cA3 cA4 cA5 zX cX0 cX1 cX2 cX3 cX4 cX5
        clear hc1
        simp only [Sc.val, Option.isSome]
        have hz15 := lt_of HN.out
        go_upto_region 9 with (fail)
        generalize hw : World.alloc (World.alloc w15 _) _ = w16
        have HM : Hid (w16.heap[w15.heap.size]? = some (.cells #[.int .u64 gv, .int .u64 gm, .int .u64 gl, .int .u64 gh, .int .i64 gi, .int .i64 gj] 28)) := Lib.hid (by rw [← hw]; exact al_keep (al_at _ _) _)
        have HK : Hid (w16.heap[w15.heap.size + 1]? = some (.cells #[.int .u64 dv, .int .u64 dm, .int .u64 dl, .int .u64 dh, .int .i64 di, .int .i64 dj] 28)) := Lib.hid (by rw [← hw]; exact al_eq _ _ _ (by simp only [size_alloc]))
        have HR := Lib.hid (show w16.heap[w.heap.size + 1 + 1]? = some (.cells #[.int .u64 0, .int .u64 0, .int .u64 0, .int .u64 0, .int .i64 0, .int .i64 0] 28) from by rw [← hw]; exact al_keep (al_keep HR.out _) _)
        have HQ := Lib.hid (show w16.heap[w.heap.size + 1 + 1 + 1]? = some (.cells #[.int .u64 0, .int .u64 0, .int .u64 0, .int .u64 0, .int .i64 0, .int .i64 0] 28) from by rw [← hw]; exact al_keep (al_keep HQ.out _) _)
        have HN := Lib.hid (show w16.heap[w.heap.size + 1 + 1 + 1 + 1]? = some (.cells #[.int .u64 0, .int .u64 0, .int .u64 0, .int .u64 0, .int .i64 0, .int .i64 0] 28) from by rw [← hw]; exact al_keep (al_keep HN.out _) _)
        have HB := Lib.hid (show But [] w w16 from by rw [← hw]; exact (HB.out.alloc _).alloc _)
        clear hw
        go_upto_region 10 with (fail)
        have hx := HN.out
        obtain ⟨cN0, cN1, cN2, cN3, cN4, cN5⟩ := c6_of hx
        have zN := lt_of hx
        clear hx
        have hx := HR.out
        obtain ⟨cR0, cR1, cR2, cR3, cR4, cR5⟩ := c6_of hx
        obtain ⟨fR0, fR1, fR2, fR3, fR4, fR5⟩ := f6_of hx
        have zR := lt_of hx
        clear hx
        have hx := HQ.out
        obtain ⟨cQ0, cQ1, cQ2, cQ3, cQ4, cQ5⟩ := c6_of hx
        obtain ⟨fQ0, fQ1, fQ2, fQ3, fQ4, fQ5⟩ := f6_of hx
        have zQ := lt_of hx
        clear hx
        go_region
        all_goals (repeat (first | go_values | go_skip | go_guarded | go_step | go_upon))
        all_goals exact bodyPost_ret (v := .tuple #[.agg #[.int .u64 0, .int .u64 0, .int .u64 0, .int .u64 0, .int .i64 0, .int .i64 0], .agg #[.int .u64 0, .int .u64 0, .int .u64 0, .int .u64 0, .int .i64 0, .int .i64 0], .bool false]) (by simp [results, Try.results18, go_sem, cR0, cR1, cR2, cR3, cR4, cR5, cQ0, cQ1, cQ2, cQ3, cQ4, cQ5]) rfl ⟨by rw [HE.out]; rfl, by
    repeat (first | with_reducible exact HB.out | with_reducible refine But.alloc ?_ _ | with_reducible refine But.drew ?_ | (with_reducible refine But.setCell ?_ (.inr ?_) _; rotate_left; (simp only []; omega)))⟩
      | some x =>
        have hx := HA.out
        obtain ⟨cA0, cA1, cA2, cA3, cA4, cA5⟩ := c6_of hx
        have zA := lt_of hx
        clear hx
        have hx := HX.out
        obtain ⟨cX0, cX1, cX2, cX3, cX4, cX5⟩ := c6_of hx
        have zX := lt_of hx
        clear hx
        go_wp2_with fail
        refine (G4.out _).mono ?_
        rintro e w13 ⟨rfl, hb⟩
        have HA := Lib.hid (hb.heap HA.out (by simp))
        have HX := Lib.hid (hb.heap HX.out (by simp))
        have HR := Lib.hid (hb.heap HR.out (by simp))
        have HQ := Lib.hid (hb.heap HQ.out (by simp))
        have HN := Lib.hid (hb.heap HN.out (by simp))
        have HB := Lib.hid (HB.out.trans hb (by simp))
        clear hb
        clear zA cA0 cA1 cA2 cA3 cA4 cA5 zX cX0 cX1 cX2 cX3 cX4 cX5
        have hx := HA.out
        obtain ⟨cA0, cA1, cA2, cA3, cA4, cA5⟩ := c6_of hx
        have zA := lt_of hx
        clear hx
        have hx := HX.out
        obtain ⟨cX0, cX1, cX2, cX3, cX4, cX5⟩ := c6_of hx
        have zX := lt_of hx
        clear hx
        go_wp2_with fail
        refine (G3.out _).mono ?_
        rintro e w15 ⟨⟨⟨gv, gm⟩, ⟨gl, gh, gi, gj⟩⟩, ⟨⟨dv, dm⟩, ⟨dl, dh, di, dj⟩⟩, rfl, hc1, hb⟩
        have HR := Lib.hid (hb.heap HR.out (by simp))
        have HQ := Lib.hid (hb.heap HQ.out (by simp))
        have HN := Lib.hid (hb.heap HN.out (by simp))
        have HB := Lib.hid (HB.out.trans hb (by simp))
        clear hb HA HX
        clear zA cA0 cA1 cA2 cA3 cA4 cA5 zX cX0 cX1 cX2 cX3 cX4 cX5
        have hcc := hc1 _ rfl
        have HCC := Lib.hid hcc
        clear hc1 hcc
        simp only [Sc.val, Option.isSome]
        have hz15 := lt_of HN.out
        go_upto_region 9 with (fail)
        generalize hw : World.alloc (World.alloc w15 _) _ = w16
        have HM : Hid (w16.heap[w15.heap.size]? = some (.cells #[.int .u64 gv, .int .u64 gm, .int .u64 gl, .int .u64 gh, .int .i64 gi, .int .i64 gj] 28)) := Lib.hid (by rw [← hw]; exact al_keep (al_at _ _) _)
        have HK : Hid (w16.heap[w15.heap.size + 1]? = some (.cells #[.int .u64 dv, .int .u64 dm, .int .u64 dl, .int .u64 dh, .int .i64 di, .int .i64 dj] 28)) := Lib.hid (by rw [← hw]; exact al_eq _ _ _ (by simp only [size_alloc]))
        have HR := Lib.hid (show w16.heap[w.heap.size + 1 + 1]? = some (.cells #[.int .u64 0, .int .u64 0, .int .u64 0, .int .u64 0, .int .i64 0, .int .i64 0] 28) from by rw [← hw]; exact al_keep (al_keep HR.out _) _)
        have HQ := Lib.hid (show w16.heap[w.heap.size + 1 + 1 + 1]? = some (.cells #[.int .u64 0, .int .u64 0, .int .u64 0, .int .u64 0, .int .i64 0, .int .i64 0] 28) from by rw [← hw]; exact al_keep (al_keep HQ.out _) _)
        have HN := Lib.hid (show w16.heap[w.heap.size + 1 + 1 + 1 + 1]? = some (.cells #[.int .u64 0, .int .u64 0, .int .u64 0, .int .u64 0, .int .i64 0, .int .i64 0] 28) from by rw [← hw]; exact al_keep (al_keep HN.out _) _)
        have HB := Lib.hid (show But [] w w16 from by rw [← hw]; exact (HB.out.alloc _).alloc _)
        clear hw
        go_upto_region 11 with (fail)
        have hx := HM.out
        obtain ⟨cM0, cM1, cM2, cM3, cM4, cM5⟩ := c6_of hx
        have zM := lt_of hx
        clear hx
        have hx := HK.out
        obtain ⟨cK0, cK1, cK2, cK3, cK4, cK5⟩ := c6_of hx
        have zK := lt_of hx
        clear hx
        have hx := HR.out
        obtain ⟨cR0, cR1, cR2, cR3, cR4, cR5⟩ := c6_of hx
        obtain ⟨fR0, fR1, fR2, fR3, fR4, fR5⟩ := f6_of hx
        have zR := lt_of hx
        clear hx
        have hx := HQ.out
        obtain ⟨cQ0, cQ1, cQ2, cQ3, cQ4, cQ5⟩ := c6_of hx
        obtain ⟨fQ0, fQ1, fQ2, fQ3, fQ4, fQ5⟩ := f6_of hx
        have zQ := lt_of hx
        clear hx
        go_region
        all_goals (repeat (first | go_values | go_skip | go_guarded | go_step | go_upon))
        all_goals exact bodyPost_ret (v := .tuple #[.agg #[.int .u64 gv, .int .u64 gm, .int .u64 gl, .int .u64 gh, .int .i64 gi, .int .i64 gj], .agg #[.int .u64 dv, .int .u64 dm, .int .u64 dl, .int .u64 dh, .int .i64 di, .int .i64 dj], .bool true]) (by simp [results, Try.results18, go_sem, cR0, cR1, cR2, cR3, cR4, cR5, cQ0, cQ1, cQ2, cQ3, cQ4, cQ5]) rfl ⟨by rw [HE.out, HCC.out]; rfl, by
    repeat (first | with_reducible exact HB.out | with_reducible refine But.alloc ?_ _ | with_reducible refine But.drew ?_ | (with_reducible refine But.setCell ?_ (.inr ?_) _; rotate_left; (simp only []; omega)))⟩
    | false =>
      subst hwd
      have hw2 := hw.resolve_left (by decide)
      have e3 : ¬ (2147483647 : Int) < (hi : Int) := by omega
      have e4 : ¬ (2147483647 : Int) < (xhi : Int) := by omega
      clear hw hw2
      cases T with
      | none =>
        have hx := HA.out
        obtain ⟨cA0, cA1, cA2, cA3, cA4, cA5⟩ := c6_of hx
        have zA := lt_of hx
        clear hx
        have hx := HX.out
        obtain ⟨cX0, cX1, cX2, cX3, cX4, cX5⟩ := c6_of hx
        have zX := lt_of hx
        clear hx
        go_wp2_with fail
        refine (G4.out _).mono ?_
        rintro e w13 ⟨rfl, hb⟩
        have HA := Lib.hid (hb.heap HA.out (by simp))
        have HX := Lib.hid (hb.heap HX.out (by simp))
        have HR := Lib.hid (hb.heap HR.out (by simp))
        have HQ := Lib.hid (hb.heap HQ.out (by simp))
        have HN := Lib.hid (hb.heap HN.out (by simp))
        have HB := Lib.hid (HB.out.trans hb (by simp))
        clear hb
        clear zA cA0 cA1 cA2 cA3 cA4 cA5 zX cX0 cX1 cX2 cX3 cX4 cX5
        have hx := HA.out
        obtain ⟨cA0, cA1, cA2, cA3, cA4, cA5⟩ := c6_of hx
        have zA := lt_of hx
        clear hx
        have hx := HX.out
        obtain ⟨cX0, cX1, cX2, cX3, cX4, cX5⟩ := c6_of hx
        have zX := lt_of hx
        clear hx
        go_wp2_with fail
        refine (G3.out _).mono ?_
        rintro e w15 ⟨⟨⟨gv, gm⟩, ⟨gl, gh, gi, gj⟩⟩, ⟨⟨dv, dm⟩, ⟨dl, dh, di, dj⟩⟩, rfl, hc1, hb⟩
        have HR := Lib.hid (hb.heap HR.out (by simp))
        have HQ := Lib.hid (hb.heap HQ.out (by simp))
        have HN := Lib.hid (hb.heap HN.out (by simp))
        have HB := Lib.hid (HB.out.trans hb (by simp))
        clear hb HA HX
        clear zA cA0 cA1 cA2 cA3 cA4 cA5 zX cX0 cX1 cX2 cX3 cX4 cX5
        clear hc1
        simp only [Sc.val, Option.isSome]
        have hz15 := lt_of HN.out
        go_upto_region 9 with (fail)
        generalize hw : World.alloc (World.alloc w15 _) _ = w16
        have HM : Hid (w16.heap[w15.heap.size]? = some (.cells #[.int .u64 gv, .int .u64 gm, .int .u64 gl, .int .u64 gh, .int .i64 gi, .int .i64 gj] 28)) := Lib.hid (by rw [← hw]; exact al_keep (al_at _ _) _)
        have HK : Hid (w16.heap[w15.heap.size + 1]? = some (.cells #[.int .u64 dv, .int .u64 dm, .int .u64 dl, .int .u64 dh, .int .i64 di, .int .i64 dj] 28)) := Lib.hid (by rw [← hw]; exact al_eq _ _ _ (by simp only [size_alloc]))
        have HR := Lib.hid (show w16.heap[w.heap.size + 1 + 1]? = some (.cells #[.int .u64 0, .int .u64 0, .int .u64 0, .int .u64 0, .int .i64 0, .int .i64 0] 28) from by rw [← hw]; exact al_keep (al_keep HR.out _) _)
        have HQ := Lib.hid (show w16.heap[w.heap.size + 1 + 1 + 1]? = some (.cells #[.int .u64 0, .int .u64 0, .int .u64 0, .int .u64 0, .int .i64 0, .int .i64 0] 28) from by rw [← hw]; exact al_keep (al_keep HQ.out _) _)
        have HN := Lib.hid (show w16.heap[w.heap.size + 1 + 1 + 1 + 1]? = some (.cells #[.int .u64 0, .int .u64 0, .int .u64 0, .int .u64 0, .int .i64 0, .int .i64 0] 28) from by rw [← hw]; exact al_keep (al_keep HN.out _) _)
        have HB := Lib.hid (show But [] w w16 from by rw [← hw]; exact (HB.out.alloc _).alloc _)
        clear hw
        go_upto_region 10 with (fail)
        have hx := HN.out
        obtain ⟨cN0, cN1, cN2, cN3, cN4, cN5⟩ := c6_of hx
        have zN := lt_of hx
        clear hx
        have hx := HR.out
        obtain ⟨cR0, cR1, cR2, cR3, cR4, cR5⟩ := c6_of hx
        obtain ⟨fR0, fR1, fR2, fR3, fR4, fR5⟩ := f6_of hx
        have zR := lt_of hx
        clear hx
        have hx := HQ.out
        obtain ⟨cQ0, cQ1, cQ2, cQ3, cQ4, cQ5⟩ := c6_of hx
        obtain ⟨fQ0, fQ1, fQ2, fQ3, fQ4, fQ5⟩ := f6_of hx
        have zQ := lt_of hx
        clear hx
        go_region
        all_goals (repeat (first | go_values | go_skip | go_guarded | go_step | go_upon))
        all_goals exact bodyPost_ret (v := .tuple #[.agg #[.int .u64 0, .int .u64 0, .int .u64 0, .int .u64 0, .int .i64 0, .int .i64 0], .agg #[.int .u64 0, .int .u64 0, .int .u64 0, .int .u64 0, .int .i64 0, .int .i64 0], .bool false]) (by simp [results, Try.results18, go_sem, cR0, cR1, cR2, cR3, cR4, cR5, cQ0, cQ1, cQ2, cQ3, cQ4, cQ5]) rfl ⟨by rw [HE.out]; rfl, by
    repeat (first | with_reducible exact HB.out | with_reducible refine But.alloc ?_ _ | with_reducible refine But.drew ?_ | (with_reducible refine But.setCell ?_ (.inr ?_) _; rotate_left; (simp only []; omega)))⟩
      | some x =>
        have hx := HA.out
        obtain ⟨cA0, cA1, cA2, cA3, cA4, cA5⟩ := c6_of hx
        have zA := lt_of hx
        clear hx
        have hx := HX.out
        obtain ⟨cX0, cX1, cX2, cX3, cX4, cX5⟩ := c6_of hx
        have zX := lt_of hx
        clear hx
        go_wp2_with fail
        refine (G4.out _).mono ?_
        rintro e w13 ⟨rfl, hb⟩
        have HA := Lib.hid (hb.heap HA.out (by simp))
        have HX := Lib.hid (hb.heap HX.out (by simp))
        have HR := Lib.hid (hb.heap HR.out (by simp))
        have HQ := Lib.hid (hb.heap HQ.out (by simp))
        have HN := Lib.hid (hb.heap HN.out (by simp))
        have HB := Lib.hid (HB.out.trans hb (by simp))
        clear hb
        clear zA cA0 cA1 cA2 cA3 cA4 cA5 zX cX0 cX1 cX2 cX3 cX4 cX5
        have hx := HA.out
        obtain ⟨cA0, cA1, cA2, cA3, cA4, cA5⟩ := c6_of hx
        have zA := lt_of hx
        clear hx
        have hx := HX.out
        obtain ⟨cX0, cX1, cX2, cX3, cX4, cX5⟩ := c6_of hx
        have zX := lt_of hx
        clear hx
        go_wp2_with fail
        refine (G3.out _).mono ?_
        rintro e w15 ⟨⟨⟨gv, gm⟩, ⟨gl, gh, gi, gj⟩⟩, ⟨⟨dv, dm⟩, ⟨dl, dh, di, dj⟩⟩, rfl, hc1, hb⟩
        have HR := Lib.hid (hb.heap HR.out (by simp))
        have HQ := Lib.hid (hb.heap HQ.out (by simp))
        have HN := Lib.hid (hb.heap HN.out (by simp))
        have HB := Lib.hid (HB.out.trans hb (by simp))
        clear hb HA HX
        clear zA cA0 cA1 cA2 cA3 cA4 cA5 zX cX0 cX1 cX2 cX3 cX4 cX5
        have hcc := hc1 _ rfl
        have HCC := Lib.hid hcc
        clear hc1 hcc
        simp only [Sc.val, Option.isSome]
        have hz15 := lt_of HN.out
        go_upto_region 9 with (fail)
        generalize hw : World.alloc (World.alloc w15 _) _ = w16
        have HM : Hid (w16.heap[w15.heap.size]? = some (.cells #[.int .u64 gv, .int .u64 gm, .int .u64 gl, .int .u64 gh, .int .i64 gi, .int .i64 gj] 28)) := Lib.hid (by rw [← hw]; exact al_keep (al_at _ _) _)
        have HK : Hid (w16.heap[w15.heap.size + 1]? = some (.cells #[.int .u64 dv, .int .u64 dm, .int .u64 dl, .int .u64 dh, .int .i64 di, .int .i64 dj] 28)) := Lib.hid (by rw [← hw]; exact al_eq _ _ _ (by simp only [size_alloc]))
        have HR := Lib.hid (show w16.heap[w.heap.size + 1 + 1]? = some (.cells #[.int .u64 0, .int .u64 0, .int .u64 0, .int .u64 0, .int .i64 0, .int .i64 0] 28) from by rw [← hw]; exact al_keep (al_keep HR.out _) _)
        have HQ := Lib.hid (show w16.heap[w.heap.size + 1 + 1 + 1]? = some (.cells #[.int .u64 0, .int .u64 0, .int .u64 0, .int .u64 0, .int .i64 0, .int .i64 0] 28) from by rw [← hw]; exact al_keep (al_keep HQ.out _) _)
        have HN := Lib.hid (show w16.heap[w.heap.size + 1 + 1 + 1 + 1]? = some (.cells #[.int .u64 0, .int .u64 0, .int .u64 0, .int .u64 0, .int .i64 0, .int .i64 0] 28) from by rw [← hw]; exact al_keep (al_keep HN.out _) _)
        have HB := Lib.hid (show But [] w w16 from by rw [← hw]; exact (HB.out.alloc _).alloc _)
        clear hw
        go_upto_region 11 with (fail)
        have hx := HM.out
        obtain ⟨cM0, cM1, cM2, cM3, cM4, cM5⟩ := c6_of hx
        have zM := lt_of hx
        clear hx
        have hx := HK.out
        obtain ⟨cK0, cK1, cK2, cK3, cK4, cK5⟩ := c6_of hx
        have zK := lt_of hx
        clear hx
        have hx := HR.out
        obtain ⟨cR0, cR1, cR2, cR3, cR4, cR5⟩ := c6_of hx
        obtain ⟨fR0, fR1, fR2, fR3, fR4, fR5⟩ := f6_of hx
        have zR := lt_of hx
        clear hx
        have hx := HQ.out
        obtain ⟨cQ0, cQ1, cQ2, cQ3, cQ4, cQ5⟩ := c6_of hx
        obtain ⟨fQ0, fQ1, fQ2, fQ3, fQ4, fQ5⟩ := f6_of hx
        have zQ := lt_of hx
        clear hx
        go_region
        all_goals (repeat (first | go_values | go_skip | go_guarded | go_step | go_upon))
        all_goals exact bodyPost_ret (v := .tuple #[.agg #[.int .u64 gv, .int .u64 gm, .int .u64 gl, .int .u64 gh, .int .i64 gi, .int .i64 gj], .agg #[.int .u64 dv, .int .u64 dm, .int .u64 dl, .int .u64 dh, .int .i64 di, .int .i64 dj], .bool true]) (by simp [results, Try.results18, go_sem, cR0, cR1, cR2, cR3, cR4, cR5, cQ0, cQ1, cQ2, cQ3, cQ4, cQ5]) rfl ⟨by rw [HE.out, HCC.out]; rfl, by
    repeat (first | with_reducible exact HB.out | with_reducible refine But.alloc ?_ _ | with_reducible refine But.drew ?_ | (with_reducible refine But.setCell ?_ (.inr ?_) _; rotate_left; (simp only []; omega)))⟩
theorem r21branch (op : Nat) (wide taken : Bool) (a b : Sc) (w : World) (hop : op < 256) (hr : Rg a) (hx : Rg b) : Calls Try.prog 18 #[.int .u8 (op : Int), .bool wide, a.val, b.val, .bool taken] w (BrPost (branchT op wide a b taken) w) := by
  obtain ⟨⟨v, m⟩, ⟨lo, hi, sl, sh⟩⟩ := a
  obtain ⟨⟨xv, xm⟩, ⟨xlo, xhi, xsl, xsh⟩⟩ := b
  cases h0 : rightB ⟨⟨v, m⟩, ⟨lo, hi, sl, sh⟩⟩ with
  | false => exact r21br0 op wide taken v m lo hi xv xm xlo xhi sl sh xsl xsh w hop hr hx h0
  | true =>
    cases h1 : rightB ⟨⟨xv, xm⟩, ⟨xlo, xhi, xsl, xsh⟩⟩ with
    | false => exact r21br1 op wide taken v m lo hi xv xm xlo xhi sl sh xsl xsh w hop hr hx h0 h1
    | true =>
      by_cases h : op = 1
      · exact r21br2 op wide taken v m lo hi xv xm xlo xhi sl sh xsl xsh w hop hr hx h0 h1 h
      · by_cases hz : opp op = 0
        · exact r21br3 op wide taken v m lo hi xv xm xlo xhi sl sh xsl xsh w hop hr hx h0 h1 h hz
        · cases hw : wide with
          | true => exact r21br5 op true taken v m lo hi xv xm xlo xhi sl sh xsl xsh w hop hr hx h0 h1 hz (.inl rfl)
          | false =>
            by_cases hm : 2147483647 < hi ∨ 2147483647 < xhi
            · exact r21br4 op false taken v m lo hi xv xm xlo xhi sl sh xsl xsh w hop hr hx h0 h1 hz rfl hm
            · exact r21br5 op false taken v m lo hi xv xm xlo xhi sl sh xsl xsh w hop hr hx h0 h1 hz (.inr (by omega))
end Go.Proofs.Ytmbmmcippglfoaa.M
