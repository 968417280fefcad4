/-
  Merged: Rules, RulesB, RulesC, RulesD.
-/
import Derived.Test.YtmbmmcippglfoaaGA
import Derived.StillTailTactics
import Derived.Deep.RegionHeld3
import Derived.Deep.DeepCutAuto
import Derived.Deep.CutBlock
import Derived.Deep.DrawnRows
namespace Go.Proofs.Ytmbmmcippglfoaa.M
open Go.RowKit
set_option linter.unusedVariables false
set_option linter.unusedSectionVars false
set_option linter.unusedSimpArgs false
theorem wp_region_tail9 {P : Program} {id : Nat} {Q : Exit → Act → World → Prop} {a : Act} {w : World} {l : List Oper} (n : Nat) (hm : P.follows .mixedOrders = true) (hB : Region.lexTailB .any l.toArray n = true)
    (h : wpStill P l.toArray w.drew (fun a' => wpList P l.toArray Q (l.drop n) a' w.drew) (l.take n) a) : (Code.region id l.toArray true).wp P Q a w := wp_region_still_tail n hm hB h
theorem fz_of {w : World} {k : Nat} {cs : Array Value} {t : TypeId} (h : w.heap[k]? = some (.cells cs t)) (j : Nat) : w.frozen? ⟨k, j, none⟩ = false := by
  unfold World.frozen?; rw [h]; simp
theorem set2 {w : World} {k : Nat} {x y a b : Value} {t : TypeId} (h : w.heap[k]? = some (.cells #[x, y] t)) : ((w.setCell ⟨k, 0, none⟩ a).setCell ⟨k, 1, none⟩ b).heap[k]? = some (.cells #[a, b] t) := by
  simp [World.setCell, Array.getElem?_modify, h]
def r1 (s : Sc) : Sc := ⟨s.t, ⟨max s.s.lo s.t.v, min s.s.hi (uor s.t.v s.t.m), s.s.sl, s.s.sh⟩⟩
def ok1 (s : Sc) : Bool := decide (max s.s.lo s.t.v ≤ min s.s.hi (uor s.t.v s.t.m))
def r2 (s : Sc) : Sc := ⟨meetT s.t (rangeT s.s.lo s.s.hi), s.s⟩
def ok2 (s : Sc) : Bool := meetB s.t (rangeT s.s.lo s.s.hi)
/-- The captured variables. -/
def PtrAt (w : World) (b : Nat) (a : Addr) : Prop := w.cell? ⟨b, 0, none⟩ = some (.pointer (some a))
set_option maxRecDepth 100000 in
set_option maxHeartbeats 4000000 in
theorem rule1 (B b3 b4 : Nat) (s : Sc) (w : World) (hB : WkAt w B s) (h3 : PtrAt w b3 ⟨B, 2, none⟩) (h4 : PtrAt w b4 ⟨B, 0, none⟩) : Calls Try.prog 112 #[.pointer (some ⟨b3, 0, none⟩), .pointer (some ⟨b4, 0, none⟩)] w fun e w' => e = .returned (.bool (ok1 s)) ∧ WkAt w' B (r1 s) ∧ But [B] w w' := by
  obtain ⟨⟨v, m⟩, ⟨lo, hi, sl, sh⟩⟩ := s
  have c0 : w.cell? ⟨B, 0, none⟩ = some (.int .u64 v) := cl_of hB 0
  have c1 : w.cell? ⟨B, 1, none⟩ = some (.int .u64 m) := cl_of hB 1
  have p3 : w.cell? ⟨b3, 0, none⟩ = some (.pointer (some ⟨B, 2, none⟩)) := h3
  have p4 : w.cell? ⟨b4, 0, none⟩ = some (.pointer (some ⟨B, 0, none⟩)) := h4
  have HNU := Lib.hid (fun w hb => narrowU B v m lo hi sl sh v (uor v m) w hb)
  have HB := Lib.hid hB
  clear hB h3 h4
  go_enter Try.func112, Try.ntmps112
  go_wp2_with fail
  refine wp_region_tail9 19 (by kernel_rfl) (by kernel_rfl) ?_
  simp only [List.take_succ_cons, List.take_zero, List.drop_succ_cons, List.drop_zero]
  repeat still_step
  refine wpStill_nil ?_
  go_wp2_with fail
  refine (HNU.out w.drew HB.out).mono ?_
  rintro e w2 ⟨rfl, h2, hb2⟩
  have H2 := Lib.hid h2
  have HB2 := Lib.hid hb2
  clear h2 hb2
  go_wp2_with fail
  go_ret
  exact ⟨rfl, H2.out, ((But.refl [B] w).drew.mono (by simp)).trans HB2.out (fun x hx => .inl hx)⟩
set_option maxRecDepth 100000 in
set_option maxHeartbeats 4000000 in
theorem rule2 (B b3 b4 : Nat) (s : Sc) (w : World) (hle : s.s.lo ≤ s.s.hi) (hB : WkAt w B s) (h3 : PtrAt w b3 ⟨B, 2, none⟩) (h4 : PtrAt w b4 ⟨B, 0, none⟩) : Calls Try.prog 114 #[.pointer (some ⟨b4, 0, none⟩), .pointer (some ⟨b3, 0, none⟩)] w fun e w' => e = .returned (.bool (ok2 s)) ∧ WkAt w' B (r2 s) ∧ But [B] w w' := by
  obtain ⟨⟨v, m⟩, ⟨lo, hi, sl, sh⟩⟩ := s
  have c0 : w.cell? ⟨B, 0, none⟩ = some (.int .u64 v) := cl_of hB 0
  have c1 : w.cell? ⟨B, 1, none⟩ = some (.int .u64 m) := cl_of hB 1
  have c2 : w.cell? ⟨B, 2, none⟩ = some (.int .u64 lo) := cl_of hB 2
  have c3 : w.cell? ⟨B, 3, none⟩ = some (.int .u64 hi) := cl_of hB 3
  have p3 : w.cell? ⟨b3, 0, none⟩ = some (.pointer (some ⟨B, 2, none⟩)) := h3
  have p4 : w.cell? ⟨b4, 0, none⟩ = some (.pointer (some ⟨B, 0, none⟩)) := h4
  obtain ⟨⟨rv, rm⟩, hr⟩ : ∃ r : Tn, r = rangeT lo hi := ⟨_, rfl⟩
  have HRG := Lib.hid (fun w => tnRange lo hi w hle)
  rw [← hr] at HRG
  have hmt := fun w => tnMeet v m rv rm w
  obtain ⟨⟨tv, tm⟩, ht⟩ : ∃ r : Tn, r = meetT ⟨v, m⟩ ⟨rv, rm⟩ := ⟨_, rfl⟩
  obtain ⟨mb, hmb⟩ : ∃ b, b = meetB ⟨v, m⟩ ⟨rv, rm⟩ := ⟨_, rfl⟩
  rw [← ht, ← hmb] at hmt
  have HMT := Lib.hid hmt
  have HT := Lib.hid ht
  have HMB := Lib.hid hmb
  have HB := Lib.hid hB
  have HR := Lib.hid hr
  unfold Tn.val at HRG HMT
  have HS0 : Hid (∀ wx, But [] w wx → But [] w wx ∧ wx.cell? ⟨B, 0, none⟩ = some (.int .u64 v) ∧ wx.cell? ⟨B, 1, none⟩ = some (.int .u64 m) ∧ wx.cell? ⟨B, 2, none⟩ = some (.int .u64 lo) ∧ wx.cell? ⟨B, 3, none⟩ = some (.int .u64 hi) ∧ wx.cell? ⟨b3, 0, none⟩ = some (.pointer (some ⟨B, 2, none⟩)) ∧ wx.cell? ⟨b4, 0, none⟩ = some (.pointer (some ⟨B, 0, none⟩))) := Lib.hid fun wx hb => ⟨hb, cell_but hb c0 (by simp), cell_but hb c1 (by simp), cell_but hb c2 (by simp), cell_but hb c3 (by simp), cell_but hb p3 (by simp), cell_but hb p4 (by simp)⟩
  clear hB h3 h4 hr hle hmt ht hmb
  go_enter Try.func114, Try.ntmps114
  go_wp2_with fail
  go_cut [3, 4] (fun s t wx => ∃ q, s = .pointer (some ⟨q, 0, none⟩) ∧ t = .bool mb ∧ w.heap.size ≤ q ∧ wx.heap[q]? = some (.cells #[.int .u64 tv, .int .u64 tm] 24) ∧ But [] w wx)
  case first =>
    go_region_held3 (fun wx => But [] w wx ∧ wx.cell? ⟨B, 0, none⟩ = some (.int .u64 v) ∧ wx.cell? ⟨B, 1, none⟩ = some (.int .u64 m) ∧ wx.cell? ⟨B, 2, none⟩ = some (.int .u64 lo) ∧ wx.cell? ⟨B, 3, none⟩ = some (.int .u64 hi) ∧ wx.cell? ⟨b3, 0, none⟩ = some (.pointer (some ⟨B, 2, none⟩)) ∧ wx.cell? ⟨b4, 0, none⟩ = some (.pointer (some ⟨B, 0, none⟩))) (first | assumption | exact HS0.out _ (by (repeat (first | assumption | exact But.refl _ _ | refine But.drew ?_ | refine But.alloc ?_ _ | refine But.setCell ?_ (.inr ?_) _ | exact Nat.le_refl _ | exact hB6.size | exact hB5.size)))) (first | (go_at_call 115; refine (HRG.out _).mono ?_; rintro e w5 ⟨rfl, hb5⟩; have hB5 : But [] w w5 := (by (repeat (first | assumption | exact But.refl _ _ | refine But.drew ?_ | refine But.alloc ?_ _ | refine But.setCell ?_ (.inr ?_) _ | exact Nat.le_refl _ | exact hB6.size | exact hB5.size)) : But [] w _).trans hb5 (by simp); first | (have q5 := hb5.heap (heap_alloc_new _ _) (by simp); have q50 := cl_of q5 0; have q51 := cl_of q5 1; have f50 := fz_of q5 0; have f51 := fz_of q5 1; simp at q50 q51 f50 f51) | skip; clear hb5; have hk5 := HS0.out w5 hB5) | (go_at_call 83; refine (HMT.out _).mono ?_; rintro e w6 ⟨rfl, hb6⟩; have hB6 : But [] w w6 := (by (repeat (first | assumption | exact But.refl _ _ | refine But.drew ?_ | refine But.alloc ?_ _ | refine But.setCell ?_ (.inr ?_) _ | exact Nat.le_refl _ | exact hB6.size | exact hB5.size)) : But [] w _).trans hb6 (by simp); first | (have q6 := hb6.heap q5 (by simp); have q60 := cl_of q6 0; have q61 := cl_of q6 1; have f60 := fz_of q6 0; have f61 := fz_of q6 1; simp at q60 q61 f60 f61) | (have q6 := hb6.heap (heap_alloc_new _ _) (by simp); have q60 := cl_of q6 0; have q61 := cl_of q6 1; have f60 := fz_of q6 0; have f61 := fz_of q6 1; simp at q60 q61 f60 f61) | skip; clear hb6; have hk6 := HS0.out w6 hB6))
    all_goals (go_wp2_with fail)
    all_goals go_meet
    · exact ⟨_, rfl, rfl, hB6.size, heap_alloc_new _ _, hB6.alloc _⟩
    · exact ⟨_, rfl, rfl, hB5.size, set2 q6, (hB6.setCell (.inr hB5.size) _).setCell (.inr hB5.size) _⟩
    · exact ⟨_, rfl, rfl, Nat.le_refl _, set2 q6, (hB6.setCell (.inr (Nat.le_refl _)) _).setCell (.inr (Nat.le_refl _)) _⟩
  case rest =>
    obtain ⟨q, rfl, rfl, hq, hqh, hb⟩ := hcut
    have hk := HS0.out _ hb
    obtain ⟨_, d0, d1, d2, d3, e3, e4⟩ := hk
    have hBc : WkAt wc B ⟨⟨v, m⟩, ⟨lo, hi, sl, sh⟩⟩ := hb.heap HB.out (by simp)
    have g0 := fz_of hBc 0
    have g1 := fz_of hBc 1
    have n0 : wc.cell? ⟨q, 0, none⟩ = some (.int .u64 tv) := cl_of hqh 0
    have n1 : wc.cell? ⟨q, 1, none⟩ = some (.int .u64 tm) := cl_of hqh 1
    have HC := Lib.hid hBc
    have HBB := Lib.hid hb
    clear hb hBc hqh hq
    go_wp2_with fail
    go_ret
    have hok : ok2 ⟨⟨v, m⟩, ⟨lo, hi, sl, sh⟩⟩ = mb := by
      show meetB ⟨v, m⟩ (rangeT lo hi) = mb
      rw [← HR.out]
      exact HMB.out.symm
    refine ⟨by rw [hok]; rfl, ?_, ((HBB.out.mono (by simp)).setCell (.inl (by simp)) _).setCell (.inl (by simp)) _⟩
    have h := HC.out
    have hr2 : r2 ⟨⟨v, m⟩, ⟨lo, hi, sl, sh⟩⟩ = ⟨⟨tv, tm⟩, ⟨lo, hi, sl, sh⟩⟩ := by
      show (⟨meetT ⟨v, m⟩ (rangeT lo hi), _⟩ : Sc) = _
      rw [← HR.out, ← HT.out]
    rw [hr2]
    unfold WkAt scCells at h ⊢
    show ((wc.setCell ⟨B, 0, none⟩ (.int .u64 (tv : Int))).setCell ⟨B, 1, none⟩ (.int .u64 (tm : Int))).heap[B]? = _
    simp [World.setCell, Array.getElem?_modify, h]
theorem c2_of {w : World} {k : Nat} {x0 x1 : Value} {t : TypeId} (h : w.heap[k]? = some (.cells #[x0, x1] t)) : w.cell? ⟨k, 0, none⟩ = some x0 ∧ w.cell? ⟨k, 1, none⟩ = some x1 :=
  ⟨cl_of h 0, cl_of h 1⟩
theorem f2_of {w : World} {k : Nat} {x0 x1 : Value} {t : TypeId} (h : w.heap[k]? = some (.cells #[x0, x1] t)) : w.frozen? ⟨k, 0, none⟩ = false ∧ w.frozen? ⟨k, 1, none⟩ = false :=
  ⟨fz_of h 0, fz_of h 1⟩
theorem c4_of {w : World} {k : Nat} {x0 x1 x2 x3 : Value} {t : TypeId} (h : w.heap[k]? = some (.cells #[x0, x1, x2, x3] t)) : w.cell? ⟨k, 0, none⟩ = some x0 ∧ w.cell? ⟨k, 1, none⟩ = some x1 ∧ w.cell? ⟨k, 2, none⟩ = some x2 ∧ w.cell? ⟨k, 3, none⟩ = some x3 :=
  ⟨cl_of h 0, cl_of h 1, cl_of h 2, cl_of h 3⟩
theorem f4_of {w : World} {k : Nat} {x0 x1 x2 x3 : Value} {t : TypeId} (h : w.heap[k]? = some (.cells #[x0, x1, x2, x3] t)) : w.frozen? ⟨k, 0, none⟩ = false ∧ w.frozen? ⟨k, 1, none⟩ = false ∧ w.frozen? ⟨k, 2, none⟩ = false ∧ w.frozen? ⟨k, 3, none⟩ = false :=
  ⟨fz_of h 0, fz_of h 1, fz_of h 2, fz_of h 3⟩
theorem c6_of {w : World} {k : Nat} {x0 x1 x2 x3 x4 x5 : Value} {t : TypeId} (h : w.heap[k]? = some (.cells #[x0, x1, x2, x3, x4, x5] t)) : w.cell? ⟨k, 0, none⟩ = some x0 ∧ w.cell? ⟨k, 1, none⟩ = some x1 ∧ w.cell? ⟨k, 2, none⟩ = some x2 ∧ w.cell? ⟨k, 3, none⟩ = some x3 ∧ w.cell? ⟨k, 4, none⟩ = some x4 ∧ w.cell? ⟨k, 5, none⟩ = some x5 :=
  ⟨cl_of h 0, cl_of h 1, cl_of h 2, cl_of h 3, cl_of h 4, cl_of h 5⟩
theorem f6_of {w : World} {k : Nat} {x0 x1 x2 x3 x4 x5 : Value} {t : TypeId} (h : w.heap[k]? = some (.cells #[x0, x1, x2, x3, x4, x5] t)) : w.frozen? ⟨k, 0, none⟩ = false ∧ w.frozen? ⟨k, 1, none⟩ = false ∧ w.frozen? ⟨k, 2, none⟩ = false ∧ w.frozen? ⟨k, 3, none⟩ = false ∧ w.frozen? ⟨k, 4, none⟩ = false ∧ w.frozen? ⟨k, 5, none⟩ = false :=
  ⟨fz_of h 0, fz_of h 1, fz_of h 2, fz_of h 3, fz_of h 4, fz_of h 5⟩
end Go.Proofs.Ytmbmmcippglfoaa.M
namespace Go.Proofs.Ytmbmmcippglfoaa.M
open Go.RowKit
set_option linter.unusedVariables false
set_option linter.unusedSectionVars false
set_option linter.unusedSimpArgs false
def toS (n : Nat) : Int := IntKind.i64.wrap (n : Int)
def toU (n : Int) : Nat := (n % 18446744073709551616).toNat
theorem toU_wrap (n : Int) : IntKind.u64.wrap n = ((toU n : Nat) : Int) := by rw [IntKind.wrap_u64]; unfold toU; omega
def far3 (s : Sc) : Bool := ((s.s.lo : Int) / 9223372036854775808) != ((s.s.hi : Int) / 9223372036854775808)
def far4 (s : Sc) : Bool := decide (s.s.sl < 0) != decide (s.s.sh < 0)
def r3 (s : Sc) : Sc := if far3 s then s else ⟨s.t, ⟨s.s.lo, s.s.hi, max s.s.sl (toS s.s.lo), min s.s.sh (toS s.s.hi)⟩⟩
def ok3 (s : Sc) : Bool := far3 s || decide (max s.s.sl (toS s.s.lo) ≤ min s.s.sh (toS s.s.hi))
def r4 (s : Sc) : Sc := if far4 s then s else ⟨s.t, ⟨max s.s.lo (toU s.s.sl), min s.s.hi (toU s.s.sh), s.s.sl, s.s.sh⟩⟩
def ok4 (s : Sc) : Bool := far4 s || decide (max s.s.lo (toU s.s.sl) ≤ min s.s.hi (toU s.s.sh))
set_option maxRecDepth 100000 in
set_option maxHeartbeats 4000000 in
theorem rule3 (B b3 : Nat) (s : Sc) (w : World) (hB : WkAt w B s) (h3 : PtrAt w b3 ⟨B, 2, none⟩) : Calls Try.prog 116 #[.pointer (some ⟨b3, 0, none⟩)] w fun e w' => e = .returned (.bool (ok3 s)) ∧ WkAt w' B (r3 s) ∧ But [B] w w' := by
  obtain ⟨⟨v, m⟩, ⟨lo, hi, sl, sh⟩⟩ := s
  have c2 : w.cell? ⟨B, 2, none⟩ = some (.int .u64 lo) := cl_of hB 2
  have c3 : w.cell? ⟨B, 3, none⟩ = some (.int .u64 hi) := cl_of hB 3
  have p3 : w.cell? ⟨b3, 0, none⟩ = some (.pointer (some ⟨B, 2, none⟩)) := h3
  have HNE : Hid (b3 ≠ B) := Lib.hid (fun e => by
    subst e
    have c0 : w.cell? ⟨b3, 0, none⟩ = some (.int .u64 v) := cl_of hB 0
    rw [p3] at c0
    cases c0)
  have HNS := Lib.hid (fun w hb => narrowS B v m lo hi sl sh (toS lo) (toS hi) w hb)
  unfold toS at HNS
  have HB := Lib.hid hB
  clear hB h3
  cases hf : far3 ⟨⟨v, m⟩, ⟨lo, hi, sl, sh⟩⟩ with
  | true =>
    have hF : (((lo : Int) / 9223372036854775808) != ((hi : Int) / 9223372036854775808)) = true := hf
    have HF := Lib.hid hf
    clear hf HNS
    go_enter Try.func116, Try.ntmps116
    go_wp2_with fail
    go_quiet (fail)
    go_wp2_with fail
    go_ret
    refine ⟨by unfold ok3; rw [HF.out]; rfl, ?_, but_drewN (But.refl [B] w) _⟩
    unfold r3
    rw [if_pos HF.out]
    exact HB.out
  | false =>
    have hF : (((lo : Int) / 9223372036854775808) != ((hi : Int) / 9223372036854775808)) = false := hf
    have HF := Lib.hid hf
    clear hf
    go_enter Try.func116, Try.ntmps116
    go_wp2_with fail
    go_region_held3 (fun wx => wx.cell? ⟨B, 2, none⟩ = some (.int .u64 lo) ∧ wx.cell? ⟨B, 3, none⟩ = some (.int .u64 hi) ∧ wx.cell? ⟨b3, 0, none⟩ = some (.pointer (some ⟨B, 2, none⟩))) (first | assumption | go_keep) ((go_at_call 117; refine (HNS.out w.drew HB.out).mono ?_; rintro e w2 ⟨rfl, h2, hb2⟩; have HK2 : w2.cell? ⟨B, 2, none⟩ = some (.int .u64 lo) ∧ w2.cell? ⟨B, 3, none⟩ = some (.int .u64 hi) ∧ w2.cell? ⟨b3, 0, none⟩ = some (.pointer (some ⟨B, 2, none⟩)) := ⟨cl_of h2 2, cl_of h2 3, cell_but hb2 p3 (by simpa using HNE.out)⟩; have H2 := Lib.hid h2; have HB2 := Lib.hid hb2; clear h2 hb2))
    go_wp2_with fail
    go_ret
    refine ⟨by unfold ok3; rw [HF.out]; rfl, ?_, ((But.refl [B] w).drew.mono (by simp)).trans HB2.out (fun x hx => .inl hx)⟩
    unfold r3
    rw [if_neg (by rw [HF.out]; decide)]
    exact H2.out
end Go.Proofs.Ytmbmmcippglfoaa.M
namespace Go.Proofs.Ytmbmmcippglfoaa.M
open Go.RowKit
set_option linter.unusedVariables false
set_option linter.unusedSectionVars false
set_option linter.unusedSimpArgs false
set_option maxRecDepth 100000 in
set_option maxHeartbeats 4000000 in
theorem rule4 (B b5 : Nat) (s : Sc) (w : World) (hB : WkAt w B s) (h3 : PtrAt w b5 ⟨B, 2, none⟩) : Calls Try.prog 118 #[.pointer (some ⟨b5, 0, none⟩)] w fun e w' => e = .returned (.bool (ok4 s)) ∧ WkAt w' B (r4 s) ∧ But [B] w w' := by
  obtain ⟨⟨v, m⟩, ⟨lo, hi, sl, sh⟩⟩ := s
  have c2 : w.cell? ⟨B, 4, none⟩ = some (.int .i64 sl) := cl_of hB 4
  have c3 : w.cell? ⟨B, 5, none⟩ = some (.int .i64 sh) := cl_of hB 5
  have p3 : w.cell? ⟨b5, 0, none⟩ = some (.pointer (some ⟨B, 2, none⟩)) := h3
  have HNE : Hid (b5 ≠ B) := Lib.hid (fun e => by
    subst e
    have c0 : w.cell? ⟨b5, 0, none⟩ = some (.int .u64 v) := cl_of hB 0
    rw [p3] at c0
    cases c0)
  have HNU := Lib.hid (fun w hb => narrowU B v m lo hi sl sh (toU sl) (toU sh) w hb)
  have hu1 := toU_wrap sl
  have hu2 := toU_wrap sh
  have HB := Lib.hid hB
  clear hB h3
  by_cases ha : sl < 0 <;> by_cases hb : sh < 0
  · have HF : Hid (far4 ⟨⟨v, m⟩, ⟨lo, hi, sl, sh⟩⟩ = false) := Lib.hid (by simp [far4, ha, hb])
    have ea : (sl < 0) = True := by simpa using ha
    have eb : (sh < 0) = True := by simpa using hb
    clear ha hb
    go_enter Try.func118, Try.ntmps118
    go_wp2_with fail
    go_region_held3 (fun wx => wx.cell? ⟨B, 4, none⟩ = some (.int .i64 sl) ∧ wx.cell? ⟨B, 5, none⟩ = some (.int .i64 sh) ∧ wx.cell? ⟨b5, 0, none⟩ = some (.pointer (some ⟨B, 2, none⟩))) (first | assumption | go_keep) ((go_at_call 113; refine (HNU.out w.drew HB.out).mono ?_; rintro e w2 ⟨rfl, h2, hb2⟩; have HK2 : w2.cell? ⟨B, 4, none⟩ = some (.int .i64 sl) ∧ w2.cell? ⟨B, 5, none⟩ = some (.int .i64 sh) ∧ w2.cell? ⟨b5, 0, none⟩ = some (.pointer (some ⟨B, 2, none⟩)) := ⟨cl_of h2 4, cl_of h2 5, cell_but hb2 p3 (by simpa using HNE.out)⟩; have H2 := Lib.hid h2; have HB2 := Lib.hid hb2; clear h2 hb2))
    go_wp2_with fail
    go_ret
    refine ⟨by unfold ok4; rw [HF.out]; rfl, ?_, ((But.refl [B] w).drew.mono (by simp)).trans HB2.out (fun x hx => .inl hx)⟩
    unfold r4
    rw [if_neg (by rw [HF.out]; decide)]
    exact H2.out
  · have HF : Hid (far4 ⟨⟨v, m⟩, ⟨lo, hi, sl, sh⟩⟩ = true) := Lib.hid (by simp [far4, ha, hb])
    have ea : (sl < 0) = True := by simpa using ha
    have eb : (sh < 0) = False := by simpa using hb
    clear ha hb
    clear HNU
    go_enter Try.func118, Try.ntmps118
    go_wp2_with fail
    go_quiet (fail)
    go_wp2_with fail
    go_ret
    refine ⟨by unfold ok4; rw [HF.out]; rfl, ?_, but_drewN (But.refl [B] w) _⟩
    unfold r4
    rw [if_pos HF.out]
    exact HB.out
  · have HF : Hid (far4 ⟨⟨v, m⟩, ⟨lo, hi, sl, sh⟩⟩ = true) := Lib.hid (by simp [far4, ha, hb])
    have ea : (sl < 0) = False := by simpa using ha
    have eb : (sh < 0) = True := by simpa using hb
    clear ha hb
    clear HNU
    go_enter Try.func118, Try.ntmps118
    go_wp2_with fail
    go_quiet (fail)
    go_wp2_with fail
    go_ret
    refine ⟨by unfold ok4; rw [HF.out]; rfl, ?_, but_drewN (But.refl [B] w) _⟩
    unfold r4
    rw [if_pos HF.out]
    exact HB.out
  · have HF : Hid (far4 ⟨⟨v, m⟩, ⟨lo, hi, sl, sh⟩⟩ = false) := Lib.hid (by simp [far4, ha, hb])
    have ea : (sl < 0) = False := by simpa using ha
    have eb : (sh < 0) = False := by simpa using hb
    clear ha hb
    go_enter Try.func118, Try.ntmps118
    go_wp2_with fail
    go_region_held3 (fun wx => wx.cell? ⟨B, 4, none⟩ = some (.int .i64 sl) ∧ wx.cell? ⟨B, 5, none⟩ = some (.int .i64 sh) ∧ wx.cell? ⟨b5, 0, none⟩ = some (.pointer (some ⟨B, 2, none⟩))) (first | assumption | go_keep) ((go_at_call 113; refine (HNU.out w.drew HB.out).mono ?_; rintro e w2 ⟨rfl, h2, hb2⟩; have HK2 : w2.cell? ⟨B, 4, none⟩ = some (.int .i64 sl) ∧ w2.cell? ⟨B, 5, none⟩ = some (.int .i64 sh) ∧ w2.cell? ⟨b5, 0, none⟩ = some (.pointer (some ⟨B, 2, none⟩)) := ⟨cl_of h2 4, cl_of h2 5, cell_but hb2 p3 (by simpa using HNE.out)⟩; have H2 := Lib.hid h2; have HB2 := Lib.hid hb2; clear h2 hb2))
    go_wp2_with fail
    go_ret
    refine ⟨by unfold ok4; rw [HF.out]; rfl, ?_, ((But.refl [B] w).drew.mono (by simp)).trans HB2.out (fun x hx => .inl hx)⟩
    unfold r4
    rw [if_neg (by rw [HF.out]; decide)]
    exact H2.out
end Go.Proofs.Ytmbmmcippglfoaa.M
namespace Go.Proofs.Ytmbmmcippglfoaa.M
open Go.RowKit
set_option linter.unusedVariables false
set_option linter.unusedSectionVars false
set_option linter.unusedSimpArgs false
/-- The four rules' closures. -/
def ruleFns (b3 b4 : Nat) : Array Value := #[.func (.func 112) #[] #[.pointer (some ⟨b3, 0, none⟩), .pointer (some ⟨b4, 0, none⟩)], .func (.func 114) #[] #[.pointer (some ⟨b4, 0, none⟩), .pointer (some ⟨b3, 0, none⟩)], .func (.func 116) #[] #[.pointer (some ⟨b3, 0, none⟩)], .func (.func 118) #[] #[.pointer (some ⟨b3, 0, none⟩)]]
structure RulesAt (W : World) (B q5 bs b3 b4 : Nat) : Prop where
  c5 : W.cell? ⟨q5, 0, none⟩ = some (.slice (some ⟨bs, 0, none⟩) 4 4)
  cb : ∃ t, W.heap[bs]? = some (.cells (ruleFns b3 b4) t)
  c3 : PtrAt W b3 ⟨B, 2, none⟩
  c4 : PtrAt W b4 ⟨B, 0, none⟩
  n5 : q5 ≠ B
  nb : bs ≠ B
  n3 : b3 ≠ B
  n4 : b4 ≠ B
set_option maxRecDepth 100000 in
set_option maxHeartbeats 4000000 in
theorem rulesGo (B : Nat) (s : Sc) (w : World) (hB : WkAt w B s) : Calls Try.prog 102 #[.pointer (some ⟨B, 0, none⟩)] w fun e w' => ∃ q5 bs b3 b4, e = .returned (.func (.func 119) #[] #[.pointer (some ⟨q5, 0, none⟩)]) ∧ RulesAt w' B q5 bs b3 b4 ∧ But [] w w' := by
  have hlt : B < w.heap.size := lt_of hB
  have HLT := Lib.hid hlt
  clear hB hlt
  go_enter Try.func102, Try.ntmps102
  go_wp2_with fail
  go_cut [3, 4] (fun x y wx => ∃ b3 b4, x = .pointer (some ⟨b3, 0, none⟩) ∧ y = .pointer (some ⟨b4, 0, none⟩) ∧ w.heap.size ≤ b3 ∧ w.heap.size ≤ b4 ∧ wx.heap[b3]? = some (.cells #[.pointer (some ⟨B, 2, none⟩)] 133) ∧ wx.heap[b4]? = some (.cells #[.pointer (some ⟨B, 0, none⟩)] 134) ∧ But [] w wx)
  case first =>
    go_region_held3 (fun wx => True) (trivial) (fail)
    all_goals (go_wp2_with fail)
    all_goals go_meet
    · refine ⟨w.heap.size, w.heap.size + 1, rfl, rfl, Nat.le_refl _, Nat.le_succ _, ?_, ?_, ((But.refl [] w).alloc _).alloc _ |>.drew⟩
      · exact al_keep (al_at _ _) _
      · exact al_eq _ _ _ (by simp only [size_alloc])
    · refine ⟨w.heap.size + 1, w.heap.size, rfl, rfl, Nat.le_succ _, Nat.le_refl _, ?_, ?_, ((But.refl [] w).alloc _).alloc _ |>.drew⟩
      · exact al_eq _ _ _ (by simp only [size_alloc])
      · exact al_keep (al_at _ _) _
  case rest =>
    obtain ⟨b3, b4, rfl, rfl, h3, h4, hb3, hb4, hb⟩ := hcut
    have l3 := lt_of hb3
    have l4 := lt_of hb4
    have HR3 := Lib.hid hb3
    have HR4 := Lib.hid hb4
    have HBB := Lib.hid hb
    have H3 := Lib.hid h3
    have H4 := Lib.hid h4
    have L3 := Lib.hid l3
    have L4 := Lib.hid l4
    clear hb3 hb4 hb h3 h4 l3 l4
    go_wp2_with fail
    go_ret
    have hz := HBB.out.size
    have hlt := HLT.out
    have h3 := H3.out
    have h4 := H4.out
    refine ⟨wc.heap.size + 1, wc.heap.size, b3, b4, rfl, ⟨?_, ⟨_, al_keep (al_at _ _) _⟩, ?_, ?_, ?_, ?_, ?_, ?_⟩, (HBB.out.alloc _).alloc _⟩
    · exact cl_of (al_eq _ _ _ (by simp only [size_alloc])) 0
    · exact cl_of (al_keep (al_keep HR3.out _) _) 0
    · exact cl_of (al_keep (al_keep HR4.out _) _) 0
    all_goals omega
end Go.Proofs.Ytmbmmcippglfoaa.M
