/-
  The reference: hatchwayref17.Right, of, Meet; hatchwayref18.Right.
-/
import Derived.Test.YtmbmmcippglfoaaScF
namespace Go.Proofs.Ytmbmmcippglfoaa.M
open Go.RowKit Go.Shelf
set_option linter.unusedVariables false
set_option linter.unusedSectionVars false
set_option linter.unusedSimpArgs false

set_option maxRecDepth 100000 in
set_option maxHeartbeats 4000000 in
theorem r17Right (v m : Nat) (w : World) : Calls Try.prog 42 #[.agg #[.int .u64 v, .int .u64 m]] w fun e w' => e = .returned (.bool (tnR ⟨v, m⟩)) ∧ But [] w w' := by
  go_enter Try.func42, Try.ntmps42
  go_wp2
  go_ret
  exact ⟨rfl, (But.refl _ _).alloc _⟩
set_option maxRecDepth 100000 in
set_option maxHeartbeats 4000000 in
theorem r18Right (lo hi : Nat) (sl sh : Int) (w : World) : Calls Try.prog 43 #[.agg #[.int .u64 lo, .int .u64 hi, .int .i64 sl, .int .i64 sh]] w fun e w' => e = .returned (.bool (spR ⟨lo, hi, sl, sh⟩)) ∧ But [] w w' := by
  go_enter Try.func43, Try.ntmps43
  go_wp2
  all_goals rename_i h
  all_goals go_ret
  all_goals exact ⟨by simp [spR, h], (But.refl _ _).alloc _⟩
set_option maxRecDepth 100000 in
set_option maxHeartbeats 4000000 in
theorem ones17_c (v m : Nat) (w : World) : Calls Try.prog 80 #[.agg #[.int .u64 v, .int .u64 m]] w fun e w' => e = .returned (.int .u64 ((uor v m : Nat) : Int)) ∧ w' = w.alloc (.cells #[.int .u64 v, .int .u64 m] 24) := by
  go_enter Try.func80, Try.ntmps80
  go_wp2
  go_ret
  exact ⟨rfl, rfl⟩
set_option maxRecDepth 100000 in
set_option maxHeartbeats 4000000 in
theorem noughts17_c (v m : Nat) (w : World) (hv : v < 18446744073709551616) : Calls Try.prog 81 #[.agg #[.int .u64 v, .int .u64 m]] w fun e w' => e = .returned (.int .u64 ((unot v : Nat) : Int)) ∧ w' = w.alloc (.cells #[.int .u64 v, .int .u64 m] 24) := by
  have hX := xor_not v hv
  have hsg : IntKind.u64.signed = false := rfl
  obtain ⟨n, hn⟩ : ∃ n, n = unot v := ⟨_, rfl⟩
  rw [← hn] at hX ⊢
  clear hn hv
  go_enter Try.func81, Try.ntmps81
  go_wp2
  go_ret
  exact ⟨rfl, rfl⟩
def full17 : Nat := 18446744073709551615
def of17B (a b : Nat) : Bool := uor a b == full17
def of17T (a b : Nat) : Tn := if of17B a b then ⟨undn a b, uand a b⟩ else ⟨0, 0⟩
set_option maxRecDepth 100000 in
set_option maxHeartbeats 4000000 in
theorem of17_c (a b p r : Nat) (q : Bool) (hq : of17B a b = q) (hp : of17T a b = ⟨p, r⟩) (w : World) : Calls Try.prog 79 #[.int .u64 a, .int .u64 b] w fun e w' => e = .returned (.tuple #[.agg #[.int .u64 p, .int .u64 r], .bool q]) ∧ w' = w.alloc (.cells #[.int .u64 p, .int .u64 r] 24) := by
  cases q with
  | false =>
    have hne : ((uor a b : Nat) : Int) != 18446744073709551615 := by
      have h : ¬ uor a b = full17 := by simpa [of17B] using hq
      unfold full17 at h
      simp; omega
    obtain ⟨rfl, rfl⟩ : p = 0 ∧ r = 0 := by unfold of17T at hp; rw [hq] at hp; simp at hp; exact ⟨hp.1.symm, hp.2.symm⟩
    clear hq hp
    go_enter Try.func79, Try.ntmps79
    go_wp2
    exact bodyPost_ret (v := .tuple #[.agg #[.int .u64 0, .int .u64 0], .bool false]) (by simp [results, Try.results79, go_sem]) rfl ⟨rfl, rfl⟩
  | true =>
    have hne : (((uor a b : Nat) : Int) != 18446744073709551615) = false := by
      have h : uor a b = full17 := by simpa [of17B] using hq
      unfold full17 at h
      simp; omega
    have hpr : undn a b = p ∧ uand a b = r := by unfold of17T at hp; rw [hq] at hp; simp at hp; exact hp
    obtain ⟨rfl, rfl⟩ := hpr
    clear hq hp
    go_enter Try.func79, Try.ntmps79
    go_wp2
    exact bodyPost_ret (v := .tuple #[.agg #[.int .u64 ((undn a b : Nat) : Int), .int .u64 ((uand a b : Nat) : Int)], .bool true]) (by simp [results, Try.results79, go_sem]) rfl ⟨rfl, rfl⟩
theorem of17_meet {a b : Tn} (ha : tnR a = true) (hb : tnR b = true) (hav : a.v < 18446744073709551616) (hbv : b.v < 18446744073709551616) : of17B (uand (uor a.v a.m) (uor b.v b.m)) (uand (unot a.v) (unot b.v)) = meetB a b ∧ of17T (uand (uor a.v a.m) (uor b.v b.m)) (uand (unot a.v) (unot b.v)) = meetT a b := by
  have hB : of17B (uand (uor a.v a.m) (uor b.v b.m)) (uand (unot a.v) (unot b.v)) = meetB a b := by
    rw [Bool.eq_iff_iff, meetB_iff]
    unfold of17B full17
    rw [beq_iff_eq]
    have hf : ∀ i, i < 64 → (18446744073709551615 : Nat).testBit i = true := fun i hi => by
      rw [show (18446744073709551615 : Nat) = 2 ^ 64 - 1 from rfl, Nat.testBit_two_pow_sub_one]
      simpa using hi
    constructor
    · intro h
      refine ⟨ha, hb, fun i hi x y => ?_⟩
      have h1 := congrArg (fun n => n.testBit i) h
      simp only [bit_uor, bit_uand, bit_unot _ _ hav, bit_unot _ _ hbv, hi, decide_true, Bool.true_and, hf i hi, x, y, Bool.or_false] at h1
      revert h1
      cases a.v.testBit i <;> cases b.v.testBit i <;> simp
    · rintro ⟨_, _, h⟩
      refine eq_of_bits (uor_lt _ _) (by decide) (fun i hi => ?_)
      have h1 := h i hi
      have h2 := tnR_iff.1 ha i hi
      have h3 := tnR_iff.1 hb i hi
      simp only [bit_uor, bit_uand, bit_unot _ _ hav, bit_unot _ _ hbv, hi, decide_true, Bool.true_and, hf i hi]
      revert h1 h2 h3
      cases a.v.testBit i <;> cases b.v.testBit i <;> cases a.m.testBit i <;> cases b.m.testBit i <;> simp
  refine ⟨hB, ?_⟩
  unfold of17T
  cases hm : meetB a b with
  | false => rw [hB, hm, if_neg (by decide)]; unfold meetT; rw [if_neg (by rw [hm]; decide)]
  | true =>
    rw [hB, hm, if_pos rfl, meetT_at hm]
    obtain ⟨_, _, hx⟩ := meetB_iff.1 hm
    congr 1
    · refine eq_of_bits (undn_lt _ _) (uor_lt _ _) (fun i hi => ?_)
      have h1 := hx i hi
      have h2 := tnR_iff.1 ha i hi
      have h3 := tnR_iff.1 hb i hi
      simp only [bit_undn, bit_uor, bit_uand, bit_unot _ _ hav, bit_unot _ _ hbv, hi, decide_true, Bool.true_and]
      revert h1 h2 h3
      cases a.v.testBit i <;> cases b.v.testBit i <;> cases a.m.testBit i <;> cases b.m.testBit i <;> simp
    · refine eq_of_bits (uand_lt _ _) (uand_lt _ _) (fun i hi => ?_)
      have h1 := hx i hi
      have h2 := tnR_iff.1 ha i hi
      have h3 := tnR_iff.1 hb i hi
      simp only [bit_uor, bit_uand, bit_unot _ _ hav, bit_unot _ _ hbv, hi, decide_true, Bool.true_and]
      revert h1 h2 h3
      cases a.v.testBit i <;> cases b.v.testBit i <;> cases a.m.testBit i <;> cases b.m.testBit i <;> simp
set_option maxRecDepth 100000 in
set_option maxHeartbeats 4000000 in
theorem r17Meet (v m xv xm : Nat) (w : World) (hv : v < 18446744073709551616) (hxv : xv < 18446744073709551616) : Calls Try.prog 44 #[.agg #[.int .u64 v, .int .u64 m], .agg #[.int .u64 xv, .int .u64 xm]] w fun e w' => e = .returned (.tuple #[(meetT ⟨v, m⟩ ⟨xv, xm⟩).val, .bool (meetB ⟨v, m⟩ ⟨xv, xm⟩)]) ∧ But [] w w' := by
  have G0 := Lib.hid (fun w => r17Right v m w)
  have G1 := Lib.hid (fun w => r17Right xv xm w)
  cases e0 : tnR ⟨v, m⟩ with
  | false =>
    rw [e0] at G0
    have HE : Hid (meetB ⟨v, m⟩ ⟨xv, xm⟩ = false) := Lib.hid (by simp [meetB, e0])
    clear e0
    go_enter Try.func44, Try.ntmps44
    go_wp2_with fail
    refine (G0.out _).mono ?_
    rintro e w8 ⟨rfl, hb8⟩
    have hA : w8.heap[w.heap.size]? = some (.cells #[.int .u64 v, .int .u64 m] 24) := hb8.heap (by repeat (first | (with_reducible refine al_eq _ _ _ ?_; (simp only [size_alloc]; done)) | with_reducible refine al_keep ?_ _ | with_reducible refine dr_keep ?_)) (by simp)
    have hX : w8.heap[w.heap.size + 1]? = some (.cells #[.int .u64 xv, .int .u64 xm] 24) := hb8.heap (by repeat (first | (with_reducible refine al_eq _ _ _ ?_; (simp only [size_alloc]; done)) | with_reducible refine al_keep ?_ _ | with_reducible refine dr_keep ?_)) (by simp)
    have hR : w8.heap[w.heap.size + 1 + 1]? = some (.cells #[.int .u64 0, .int .u64 0] 24) := hb8.heap (by repeat (first | (with_reducible refine al_eq _ _ _ ?_; (simp only [size_alloc]; done)) | with_reducible refine al_keep ?_ _ | with_reducible refine dr_keep ?_)) (by simp)
    obtain ⟨cA0, cA1⟩ := c2_of hA
    have zA := lt_of hA
    obtain ⟨cX0, cX1⟩ := c2_of hX
    have zX := lt_of hX
    obtain ⟨cR0, cR1⟩ := c2_of hR
    obtain ⟨fR0, fR1⟩ := f2_of hR
    have zR := lt_of hR
    have HB : Hid (But [] w w8) := Lib.hid ((by repeat (first | with_reducible exact But.refl _ _ | with_reducible refine But.drew ?_ | with_reducible refine But.alloc ?_ _) : But [] w _).trans hb8 (by simp))
    have HA := Lib.hid hA
    have HX := Lib.hid hX
    have HR := Lib.hid hR
    clear hA hX hR hb8
    go_wp2_with fail
    exact bodyPost_ret (v := .tuple #[.agg #[.int .u64 0, .int .u64 0], .bool false]) (by simp [results, Try.results44, go_sem, cR0, cR1]) rfl ⟨by unfold meetT; rw [HE.out]; rfl, by
    repeat (first | with_reducible exact HB.out | with_reducible refine But.alloc ?_ _ | (with_reducible refine But.setCell ?_ (.inr ?_) _; rotate_left; (simp only []; omega)))⟩
  | true =>
    rw [e0] at G0
    cases e1 : tnR ⟨xv, xm⟩ with
    | false =>
      rw [e1] at G1
      have HE : Hid (meetB ⟨v, m⟩ ⟨xv, xm⟩ = false) := Lib.hid (by simp [meetB, e1])
      clear e0 e1
      go_enter Try.func44, Try.ntmps44
      go_wp2_with fail
      refine (G0.out _).mono ?_
      rintro e w8 ⟨rfl, hb8⟩
      have hA : w8.heap[w.heap.size]? = some (.cells #[.int .u64 v, .int .u64 m] 24) := hb8.heap (by repeat (first | (with_reducible refine al_eq _ _ _ ?_; (simp only [size_alloc]; done)) | with_reducible refine al_keep ?_ _ | with_reducible refine dr_keep ?_)) (by simp)
      have hX : w8.heap[w.heap.size + 1]? = some (.cells #[.int .u64 xv, .int .u64 xm] 24) := hb8.heap (by repeat (first | (with_reducible refine al_eq _ _ _ ?_; (simp only [size_alloc]; done)) | with_reducible refine al_keep ?_ _ | with_reducible refine dr_keep ?_)) (by simp)
      have hR : w8.heap[w.heap.size + 1 + 1]? = some (.cells #[.int .u64 0, .int .u64 0] 24) := hb8.heap (by repeat (first | (with_reducible refine al_eq _ _ _ ?_; (simp only [size_alloc]; done)) | with_reducible refine al_keep ?_ _ | with_reducible refine dr_keep ?_)) (by simp)
      obtain ⟨cA0, cA1⟩ := c2_of hA
      have zA := lt_of hA
      obtain ⟨cX0, cX1⟩ := c2_of hX
      have zX := lt_of hX
      obtain ⟨cR0, cR1⟩ := c2_of hR
      obtain ⟨fR0, fR1⟩ := f2_of hR
      have zR := lt_of hR
      have HB : Hid (But [] w w8) := Lib.hid ((by repeat (first | with_reducible exact But.refl _ _ | with_reducible refine But.drew ?_ | with_reducible refine But.alloc ?_ _) : But [] w _).trans hb8 (by simp))
      have HA := Lib.hid hA
      have HX := Lib.hid hX
      have HR := Lib.hid hR
      clear hA hX hR hb8
      go_wp2_with fail
      refine (G1.out _).mono ?_
      rintro e w9 ⟨rfl, hb9⟩
      have hA : w9.heap[w.heap.size]? = some (.cells #[.int .u64 v, .int .u64 m] 24) := hb9.heap (HA.out) (by simp)
      have hX : w9.heap[w.heap.size + 1]? = some (.cells #[.int .u64 xv, .int .u64 xm] 24) := hb9.heap (HX.out) (by simp)
      have hR : w9.heap[w.heap.size + 1 + 1]? = some (.cells #[.int .u64 0, .int .u64 0] 24) := hb9.heap (HR.out) (by simp)
      clear zA zX zR
      clear cA0 cA1 cX0 cX1 cR0 cR1
      clear fR0 fR1
      obtain ⟨cA0, cA1⟩ := c2_of hA
      have zA := lt_of hA
      obtain ⟨cX0, cX1⟩ := c2_of hX
      have zX := lt_of hX
      obtain ⟨cR0, cR1⟩ := c2_of hR
      obtain ⟨fR0, fR1⟩ := f2_of hR
      have zR := lt_of hR
      have HB : Hid (But [] w w9) := Lib.hid ((HB.out).trans hb9 (by simp))
      have HA := Lib.hid hA
      have HX := Lib.hid hX
      have HR := Lib.hid hR
      clear hA hX hR hb9
      go_wp2_with fail
      exact bodyPost_ret (v := .tuple #[.agg #[.int .u64 0, .int .u64 0], .bool false]) (by simp [results, Try.results44, go_sem, cR0, cR1]) rfl ⟨by unfold meetT; rw [HE.out]; rfl, by
    repeat (first | with_reducible exact HB.out | with_reducible refine But.alloc ?_ _ | (with_reducible refine But.setCell ?_ (.inr ?_) _; rotate_left; (simp only []; omega)))⟩
    | true =>
      rw [e1] at G1
      have hM := of17_meet (a := ⟨v, m⟩) (b := ⟨xv, xm⟩) e0 e1 hv hxv
      simp only at hM
      obtain ⟨a, ha⟩ : ∃ a, a = uor v m := ⟨_, rfl⟩
      obtain ⟨b, hb⟩ : ∃ a, a = uor xv xm := ⟨_, rfl⟩
      obtain ⟨c, hc⟩ : ∃ a, a = unot v := ⟨_, rfl⟩
      obtain ⟨d, hd⟩ : ∃ a, a = unot xv := ⟨_, rfl⟩
      have K0 := Lib.hid (fun w => ones17_c v m w)
      have K1 := Lib.hid (fun w => ones17_c xv xm w)
      have K2 := Lib.hid (fun w => noughts17_c v m w hv)
      have K3 := Lib.hid (fun w => noughts17_c xv xm w hxv)
      rw [← ha] at K0
      rw [← hb] at K1
      rw [← hc] at K2
      rw [← hd] at K3
      rw [← ha, ← hb, ← hc, ← hd] at hM
      obtain ⟨f, hf⟩ : ∃ f, f = uand a b := ⟨_, rfl⟩
      obtain ⟨g, hg⟩ : ∃ f, f = uand c d := ⟨_, rfl⟩
      rw [← hf, ← hg] at hM
      have ab : bits .and .u64 (a : Int) (b : Int) = (f : Int) := by rw [hf]; exact bits_and a b
      have cd : bits .and .u64 (c : Int) (d : Int) = (g : Int) := by rw [hg]; exact bits_and c d
      obtain ⟨⟨tv, tm⟩, ht⟩ : ∃ t, of17T f g = t := ⟨_, rfl⟩
      obtain ⟨q, hq⟩ : ∃ t, of17B f g = t := ⟨_, rfl⟩
      have K4 := Lib.hid (fun w => of17_c f g tv tm q hq ht w)
      have HE : Hid (meetT ⟨v, m⟩ ⟨xv, xm⟩ = ⟨tv, tm⟩ ∧ meetB ⟨v, m⟩ ⟨xv, xm⟩ = q) := Lib.hid ⟨by rw [← hM.2, ht], by rw [← hM.1, hq]⟩
      clear hM ha hb hc hd hf hg ht hq hv hxv e0 e1
      go_enter Try.func44, Try.ntmps44
      go_wp2_with fail
      refine (G0.out _).mono ?_
      rintro e w8 ⟨rfl, hb8⟩
      have hA : w8.heap[w.heap.size]? = some (.cells #[.int .u64 v, .int .u64 m] 24) := hb8.heap (by repeat (first | (with_reducible refine al_eq _ _ _ ?_; (simp only [size_alloc]; done)) | with_reducible refine al_keep ?_ _ | with_reducible refine dr_keep ?_)) (by simp)
      have hX : w8.heap[w.heap.size + 1]? = some (.cells #[.int .u64 xv, .int .u64 xm] 24) := hb8.heap (by repeat (first | (with_reducible refine al_eq _ _ _ ?_; (simp only [size_alloc]; done)) | with_reducible refine al_keep ?_ _ | with_reducible refine dr_keep ?_)) (by simp)
      have hR : w8.heap[w.heap.size + 1 + 1]? = some (.cells #[.int .u64 0, .int .u64 0] 24) := hb8.heap (by repeat (first | (with_reducible refine al_eq _ _ _ ?_; (simp only [size_alloc]; done)) | with_reducible refine al_keep ?_ _ | with_reducible refine dr_keep ?_)) (by simp)
      obtain ⟨cA0, cA1⟩ := c2_of hA
      have zA := lt_of hA
      obtain ⟨cX0, cX1⟩ := c2_of hX
      have zX := lt_of hX
      obtain ⟨cR0, cR1⟩ := c2_of hR
      obtain ⟨fR0, fR1⟩ := f2_of hR
      have zR := lt_of hR
      have HB : Hid (But [] w w8) := Lib.hid ((by repeat (first | with_reducible exact But.refl _ _ | with_reducible refine But.drew ?_ | with_reducible refine But.alloc ?_ _) : But [] w _).trans hb8 (by simp))
      have HA := Lib.hid hA
      have HX := Lib.hid hX
      have HR := Lib.hid hR
      clear hA hX hR hb8
      go_wp2_with fail
      refine (G1.out _).mono ?_
      rintro e w9 ⟨rfl, hb9⟩
      have hA : w9.heap[w.heap.size]? = some (.cells #[.int .u64 v, .int .u64 m] 24) := hb9.heap (HA.out) (by simp)
      have hX : w9.heap[w.heap.size + 1]? = some (.cells #[.int .u64 xv, .int .u64 xm] 24) := hb9.heap (HX.out) (by simp)
      have hR : w9.heap[w.heap.size + 1 + 1]? = some (.cells #[.int .u64 0, .int .u64 0] 24) := hb9.heap (HR.out) (by simp)
      clear zA zX zR
      clear cA0 cA1 cX0 cX1 cR0 cR1
      clear fR0 fR1
      obtain ⟨cA0, cA1⟩ := c2_of hA
      have zA := lt_of hA
      obtain ⟨cX0, cX1⟩ := c2_of hX
      have zX := lt_of hX
      obtain ⟨cR0, cR1⟩ := c2_of hR
      obtain ⟨fR0, fR1⟩ := f2_of hR
      have zR := lt_of hR
      have HB : Hid (But [] w w9) := Lib.hid ((HB.out).trans hb9 (by simp))
      have HA := Lib.hid hA
      have HX := Lib.hid hX
      have HR := Lib.hid hR
      clear hA hX hR hb9
      go_upto_region 3 with (fail)
      have HKS : Hid (∀ wx, But [] w9 wx → wx.cell? ⟨w.heap.size, 0, none⟩ = some (.int .u64 v) ∧ wx.cell? ⟨w.heap.size, 1, none⟩ = some (.int .u64 m) ∧ wx.cell? ⟨w.heap.size + 1, 0, none⟩ = some (.int .u64 xv) ∧ wx.cell? ⟨w.heap.size + 1, 1, none⟩ = some (.int .u64 xm)) := Lib.hid (fun wx hb => by
        have h1 := hb.heap HA.out (by simp)
        have h2 := hb.heap HX.out (by simp)
        exact ⟨cl_of h1 0, cl_of h1 1, cl_of h2 0, cl_of h2 1⟩)
      go_cut [4, 5] (fun s t wx => s = .pointer (some ⟨w.heap.size + 1 + 1, 0, none⟩) ∧ t = .bool q ∧ wx.heap[w.heap.size + 1 + 1]? = some (.cells #[.int .u64 tv, .int .u64 tm] 24) ∧ But [] w wx)
      case first =>
        go_region_held3 (fun wx => wx.cell? ⟨w.heap.size, 0, none⟩ = some (.int .u64 v) ∧ wx.cell? ⟨w.heap.size, 1, none⟩ = some (.int .u64 m) ∧ wx.cell? ⟨w.heap.size + 1, 0, none⟩ = some (.int .u64 xv) ∧ wx.cell? ⟨w.heap.size + 1, 1, none⟩ = some (.int .u64 xm)) (first | assumption | (with_reducible exact HK12.out _ _) | (refine HKS.out _ ?_; (repeat (first | with_reducible exact But.refl _ _ | with_reducible exact HB11.out | with_reducible refine But.drew ?_ | with_reducible refine But.alloc ?_ _)); done) | go_keep) (first | (go_at_call 80; (with_reducible refine (K0.out _).mono ?_); rintro e w11 ⟨rfl, rfl⟩) | (go_at_call 80; (with_reducible refine (K1.out _).mono ?_); rintro e w11 ⟨rfl, rfl⟩) | (go_at_call 81; (with_reducible refine (K2.out _).mono ?_); rintro e w11 ⟨rfl, rfl⟩) | (go_at_call 81; (with_reducible refine (K3.out _).mono ?_); rintro e w11 ⟨rfl, rfl⟩) | (go_at_call 79; (with_reducible refine (K4.out _).mono ?_); rintro e w11 ⟨rfl, hw11⟩; have hb11 : But [] w9 w11 := (by rw [hw11]; repeat (first | with_reducible exact But.refl _ _ | with_reducible refine But.drew ?_ | with_reducible refine But.alloc ?_ _)); have hr11 := hb11.heap HR.out (by simp); have r0 : w11.cell? ⟨w.heap.size + 1 + 1, 0, none⟩ = some (.int .u64 0) := cl_of hr11 0; have r1 : w11.cell? ⟨w.heap.size + 1 + 1, 1, none⟩ = some (.int .u64 0) := cl_of hr11 1; have rf0 : w11.frozen? ⟨w.heap.size + 1 + 1, 0, none⟩ = false := fz_of hr11 0; have rf1 : w11.frozen? ⟨w.heap.size + 1 + 1, 1, none⟩ = false := fz_of hr11 1; have HB11 := Lib.hid hb11; have HR11 := Lib.hid hr11; have HK12 : Hid (∀ x y, ((w11.setCell ⟨w.heap.size + 1 + 1, 0, none⟩ x).setCell ⟨w.heap.size + 1 + 1, 1, none⟩ y).cell? ⟨w.heap.size, 0, none⟩ = some (.int .u64 v) ∧ ((w11.setCell ⟨w.heap.size + 1 + 1, 0, none⟩ x).setCell ⟨w.heap.size + 1 + 1, 1, none⟩ y).cell? ⟨w.heap.size, 1, none⟩ = some (.int .u64 m) ∧ ((w11.setCell ⟨w.heap.size + 1 + 1, 0, none⟩ x).setCell ⟨w.heap.size + 1 + 1, 1, none⟩ y).cell? ⟨w.heap.size + 1, 0, none⟩ = some (.int .u64 xv) ∧ ((w11.setCell ⟨w.heap.size + 1 + 1, 0, none⟩ x).setCell ⟨w.heap.size + 1 + 1, 1, none⟩ y).cell? ⟨w.heap.size + 1, 1, none⟩ = some (.int .u64 xm)) := Lib.hid (fun x y => by have h1 := sc_keep (p := ⟨w.heap.size + 1 + 1, 1, none⟩) (v := y) (sc_keep (p := ⟨w.heap.size + 1 + 1, 0, none⟩) (v := x) (hb11.heap HA.out (by simp)) (by simp only [ne_eq]; omega)) (by simp only [ne_eq]; omega); have h2 := sc_keep (p := ⟨w.heap.size + 1 + 1, 1, none⟩) (v := y) (sc_keep (p := ⟨w.heap.size + 1 + 1, 0, none⟩) (v := x) (hb11.heap HX.out (by simp)) (by simp only [ne_eq]; omega)) (by simp only [ne_eq]; omega); exact ⟨cl_of h1 0, cl_of h1 1, cl_of h2 0, cl_of h2 1⟩); clear hw11 hb11 hr11; have hk11 := HKS.out w11 HB11.out))
        all_goals (go_wp2_with fail)
        all_goals go_meet
        all_goals exact ⟨rfl, rfl, set2 HR11.out, ((HB.out.trans HB11.out (by simp)).setCell (.inr (by simp only []; omega)) _).setCell (.inr (by simp only []; omega)) _⟩
      case rest =>
        obtain ⟨rfl, rfl, hR9, hb9⟩ := hcut
        obtain ⟨r0, r1⟩ := c2_of hR9
        go_wp2_with fail
        exact bodyPost_ret (v := .tuple #[.agg #[.int .u64 tv, .int .u64 tm], .bool q]) (by simp [results, Try.results44, go_sem, r0, r1]) rfl ⟨by rw [HE.out.1, HE.out.2]; rfl, hb9⟩
end Go.Proofs.Ytmbmmcippglfoaa.M
