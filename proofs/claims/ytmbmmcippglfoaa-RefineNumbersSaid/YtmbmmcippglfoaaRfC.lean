/-
  The reference: hatchwayref19.together.
-/
import Derived.Test.YtmbmmcippglfoaaRfB
import Derived.Test.YtmbmmcippglfoaaGC
namespace Go.Proofs.Ytmbmmcippglfoaa.M
open Go.RowKit Go.Shelf
set_option linter.unusedVariables false
set_option linter.unusedSectionVars false
set_option linter.unusedSimpArgs false

theorem set401 {w : World} {k : Nat} {x0 x1 x2 x3 a b : Value} {t : TypeId} (h : w.heap[k]? = some (.cells #[x0, x1, x2, x3] t)) : ((w.setCell ⟨k, 0, none⟩ a).setCell ⟨k, 1, none⟩ b).heap[k]? = some (.cells #[a, b, x2, x3] t) := by
  simp [World.setCell, Array.getElem?_modify, h]
theorem set423 {w : World} {k : Nat} {x0 x1 x2 x3 a b : Value} {t : TypeId} (h : w.heap[k]? = some (.cells #[x0, x1, x2, x3] t)) : ((w.setCell ⟨k, 2, none⟩ a).setCell ⟨k, 3, none⟩ b).heap[k]? = some (.cells #[x0, x1, a, b] t) := by
  simp [World.setCell, Array.getElem?_modify, h]
structure RT (w : World) (A0 S0 R0 : Nat) (s st : Sc) (W : World) : Prop where
  wf : Wf st
  tr : tnR st.t = true
  same : tog st = tog s
  a : W.heap[A0]? = some (.cells #[.int .u64 st.t.v, .int .u64 st.t.m] 24)
  b : W.heap[S0]? = some (.cells #[.int .u64 st.s.lo, .int .u64 st.s.hi, .int .i64 st.s.sl, .int .i64 st.s.sh] 26)
  r : W.heap[R0]? = some (.cells #[.int .u64 0, .int .u64 0, .int .u64 0, .int .u64 0, .int .i64 0, .int .i64 0] 28)
  but : But [] w W
def cellN19 (W : World) (p : Addr) : Int := match W.cell? p with | some (.int _ n) => n | _ => 0
def muR (A S : Nat) (W : World) : Nat := ((cellN19 W ⟨A, 1, none⟩).toNat + ((cellN19 W ⟨S, 1, none⟩).toNat - (cellN19 W ⟨S, 0, none⟩).toNat)) + (cellN19 W ⟨S, 3, none⟩ - cellN19 W ⟨S, 2, none⟩).toNat
theorem muR_at {w W : World} {A0 S0 R0 : Nat} {s st : Sc} (h : RT w A0 S0 R0 s st W) : muR A0 S0 W = mu st := by
  have c1 := cl_of h.a 1
  have c2 := cl_of h.b 0
  have c3 := cl_of h.b 1
  have c4 := cl_of h.b 2
  have c5 := cl_of h.b 3
  simp only [muR, cellN19, c1, c2, c3, c4, c5]
  simp [mu]
theorem round_at {s s1 s2 s3 : Sc} (h1 : okk 0 s = true) (e1 : rk 0 s = s1) (h2 : okk 1 s1 = true) (e2 : rk 1 s1 = s2) (h3 : okk 2 s2 = true) (e3 : rk 2 s2 = s3) : round s = stepR 3 s3 := by
  show runs [0, 1, 2, 3] s = _
  simp only [runs, stepR, h1, h2, h3, if_true, Option.bind_some, e1, e2, e3]
  cases okk 3 s3 <;> simp
theorem round_n1 {s : Sc} (h : okk 0 s = false) : round s = none := by
  show runs [0, 1, 2, 3] s = _
  simp [runs, stepR, h]
theorem round_n2 {s : Sc} (h1 : okk 0 s = true) (h : okk 1 (rk 0 s) = false) : round s = none := by
  show runs [0, 1, 2, 3] s = _
  simp [runs, stepR, h, h1]
theorem round_n3 {s : Sc} (h1 : okk 0 s = true) (h2 : okk 1 (rk 0 s) = true) (h : okk 2 (rk 1 (rk 0 s)) = false) : round s = none := by
  show runs [0, 1, 2, 3] s = _
  simp [runs, stepR, h, h1, h2]
theorem beq_of_eqN {a b : Nat} (h : a = b) : ((a : Int) == (b : Int)) = true := by subst h; simp
theorem beq_of_eqNI {a b : Int} (h : a = b) : (a == b) = true := by subst h; simp
theorem beq_of_neN {a b : Nat} (h : a ≠ b) : ((a : Int) == (b : Int)) = false := by rw [beq_eq_false_iff_ne]; omega
theorem beq_of_neNI {a b : Int} (h : a ≠ b) : (a == b) = false := by rw [beq_eq_false_iff_ne]; exact h
theorem six_split {a a' b b' c c' d d' : Nat} {e e' f f' : Int} (h : ¬(a = a' ∧ b = b' ∧ c = c' ∧ d = d' ∧ e = e' ∧ f = f')) : a ≠ a' ∨ (a = a' ∧ b ≠ b') ∨ (a = a' ∧ b = b' ∧ c ≠ c') ∨ (a = a' ∧ b = b' ∧ c = c' ∧ d ≠ d') ∨ (a = a' ∧ b = b' ∧ c = c' ∧ d = d' ∧ e ≠ e') ∨ (a = a' ∧ b = b' ∧ c = c' ∧ d = d' ∧ e = e' ∧ f ≠ f') := by omega
set_option maxRecDepth 100000 in
set_option maxHeartbeats 8000000 in
theorem r19tog (pv pm plo phi : Nat) (psl psh : Int) (w : World) (hr : Rg ⟨⟨pv, pm⟩, ⟨plo, phi, psl, psh⟩⟩) : Calls Try.prog 23 #[.agg #[.int .u64 pv, .int .u64 pm], .agg #[.int .u64 plo, .int .u64 phi, .int .i64 psl, .int .i64 psh]] w fun e w' => e = .returned (.tuple #[((ofT ⟨⟨pv, pm⟩, ⟨plo, phi, psl, psh⟩⟩).getD zeroSc).val, .bool (ofT ⟨⟨pv, pm⟩, ⟨plo, phi, psl, psh⟩⟩).isSome]) ∧ But [] w w' := by
  have G0 := Lib.hid (fun w => r17Right pv pm w)
  have G1 := Lib.hid (fun w => r18Right plo phi psl psh w)
  cases e0 : tnR ⟨pv, pm⟩ with
  | false =>
    rw [e0] at G0
    have HE : Hid (ofT ⟨⟨pv, pm⟩, ⟨plo, phi, psl, psh⟩⟩ = none) := Lib.hid (by simp [ofT, e0])
    clear hr e0
    go_enter Try.func23, Try.ntmps23
    go_wp2_with fail
    refine (G0.out _).mono ?_
    rintro e w8 ⟨rfl, hb8⟩
    have hA : w8.heap[w.heap.size]? = some (.cells #[.int .u64 pv, .int .u64 pm] 24) := hb8.heap (by repeat (first | (with_reducible refine al_eq _ _ _ ?_; (simp only [size_alloc]; done)) | with_reducible refine al_keep ?_ _ | with_reducible refine dr_keep ?_)) (by simp)
    have hS : w8.heap[w.heap.size + 1]? = some (.cells #[.int .u64 plo, .int .u64 phi, .int .i64 psl, .int .i64 psh] 26) := hb8.heap (by repeat (first | (with_reducible refine al_eq _ _ _ ?_; (simp only [size_alloc]; done)) | with_reducible refine al_keep ?_ _ | with_reducible refine dr_keep ?_)) (by simp)
    have hR : w8.heap[w.heap.size + 1 + 1]? = some (.cells #[.int .u64 0, .int .u64 0, .int .u64 0, .int .u64 0, .int .i64 0, .int .i64 0] 28) := hb8.heap (by repeat (first | (with_reducible refine al_eq _ _ _ ?_; (simp only [size_alloc]; done)) | with_reducible refine al_keep ?_ _ | with_reducible refine dr_keep ?_)) (by simp)
    obtain ⟨cA0, cA1⟩ := c2_of hA
    obtain ⟨fA0, fA1⟩ := f2_of hA
    have zA := lt_of hA
    obtain ⟨cS0, cS1, cS2, cS3⟩ := c4_of hS
    obtain ⟨fS0, fS1, fS2, fS3⟩ := f4_of hS
    have zS := lt_of hS
    obtain ⟨cR0, cR1, cR2, cR3, cR4, cR5⟩ := c6_of hR
    obtain ⟨fR0, fR1, fR2, fR3, fR4, fR5⟩ := f6_of hR
    have zR := lt_of hR
    have HB : Hid (But [] w w8) := Lib.hid ((by repeat (first | with_reducible exact But.refl _ _ | with_reducible refine But.drew ?_ | with_reducible refine But.alloc ?_ _) : But [] w _).trans hb8 (by simp))
    have HA := Lib.hid hA
    have HS := Lib.hid hS
    have HR := Lib.hid hR
    clear hA hS hR hb8
    go_wp2_with fail
    exact bodyPost_ret (v := .tuple #[.agg #[.int .u64 0, .int .u64 0, .int .u64 0, .int .u64 0, .int .i64 0, .int .i64 0], .bool false]) (by simp [results, Try.results23, go_sem, cR0, cR1, cR2, cR3, cR4, cR5]) rfl ⟨by rw [HE.out]; rfl, by
    repeat (first | with_reducible exact HB.out | with_reducible refine But.alloc ?_ _ | (with_reducible refine But.setCell ?_ (.inr ?_) _; rotate_left; (simp only []; omega)))⟩
  | true =>
    rw [e0] at G0
    cases e1 : spR ⟨plo, phi, psl, psh⟩ with
    | false =>
      rw [e1] at G1
      have HE : Hid (ofT ⟨⟨pv, pm⟩, ⟨plo, phi, psl, psh⟩⟩ = none) := Lib.hid (by simp [ofT, e1])
      clear hr e0 e1
      go_enter Try.func23, Try.ntmps23
      go_wp2_with fail
      refine (G0.out _).mono ?_
      rintro e w8 ⟨rfl, hb8⟩
      have hA : w8.heap[w.heap.size]? = some (.cells #[.int .u64 pv, .int .u64 pm] 24) := hb8.heap (by repeat (first | (with_reducible refine al_eq _ _ _ ?_; (simp only [size_alloc]; done)) | with_reducible refine al_keep ?_ _ | with_reducible refine dr_keep ?_)) (by simp)
      have hS : w8.heap[w.heap.size + 1]? = some (.cells #[.int .u64 plo, .int .u64 phi, .int .i64 psl, .int .i64 psh] 26) := hb8.heap (by repeat (first | (with_reducible refine al_eq _ _ _ ?_; (simp only [size_alloc]; done)) | with_reducible refine al_keep ?_ _ | with_reducible refine dr_keep ?_)) (by simp)
      have hR : w8.heap[w.heap.size + 1 + 1]? = some (.cells #[.int .u64 0, .int .u64 0, .int .u64 0, .int .u64 0, .int .i64 0, .int .i64 0] 28) := hb8.heap (by repeat (first | (with_reducible refine al_eq _ _ _ ?_; (simp only [size_alloc]; done)) | with_reducible refine al_keep ?_ _ | with_reducible refine dr_keep ?_)) (by simp)
      obtain ⟨cA0, cA1⟩ := c2_of hA
      obtain ⟨fA0, fA1⟩ := f2_of hA
      have zA := lt_of hA
      obtain ⟨cS0, cS1, cS2, cS3⟩ := c4_of hS
      obtain ⟨fS0, fS1, fS2, fS3⟩ := f4_of hS
      have zS := lt_of hS
      obtain ⟨cR0, cR1, cR2, cR3, cR4, cR5⟩ := c6_of hR
      obtain ⟨fR0, fR1, fR2, fR3, fR4, fR5⟩ := f6_of hR
      have zR := lt_of hR
      have HB : Hid (But [] w w8) := Lib.hid ((by repeat (first | with_reducible exact But.refl _ _ | with_reducible refine But.drew ?_ | with_reducible refine But.alloc ?_ _) : But [] w _).trans hb8 (by simp))
      have HA := Lib.hid hA
      have HS := Lib.hid hS
      have HR := Lib.hid hR
      clear hA hS hR hb8
      go_wp2_with fail
      refine (G1.out _).mono ?_
      rintro e w9 ⟨rfl, hb9⟩
      have hA : w9.heap[w.heap.size]? = some (.cells #[.int .u64 pv, .int .u64 pm] 24) := hb9.heap (HA.out) (by simp)
      have hS : w9.heap[w.heap.size + 1]? = some (.cells #[.int .u64 plo, .int .u64 phi, .int .i64 psl, .int .i64 psh] 26) := hb9.heap (HS.out) (by simp)
      have hR : w9.heap[w.heap.size + 1 + 1]? = some (.cells #[.int .u64 0, .int .u64 0, .int .u64 0, .int .u64 0, .int .i64 0, .int .i64 0] 28) := hb9.heap (HR.out) (by simp)
      clear zA zS zR
      clear cA0 cA1 cS0 cS1 cS2 cS3 cR0 cR1 cR2 cR3 cR4 cR5
      clear fA0 fA1 fS0 fS1 fS2 fS3 fR0 fR1 fR2 fR3 fR4 fR5
      obtain ⟨cA0, cA1⟩ := c2_of hA
      obtain ⟨fA0, fA1⟩ := f2_of hA
      have zA := lt_of hA
      obtain ⟨cS0, cS1, cS2, cS3⟩ := c4_of hS
      obtain ⟨fS0, fS1, fS2, fS3⟩ := f4_of hS
      have zS := lt_of hS
      obtain ⟨cR0, cR1, cR2, cR3, cR4, cR5⟩ := c6_of hR
      obtain ⟨fR0, fR1, fR2, fR3, fR4, fR5⟩ := f6_of hR
      have zR := lt_of hR
      have HB : Hid (But [] w w9) := Lib.hid ((HB.out).trans hb9 (by simp))
      have HA := Lib.hid hA
      have HS := Lib.hid hS
      have HR := Lib.hid hR
      clear hA hS hR hb9
      go_wp2_with fail
      exact bodyPost_ret (v := .tuple #[.agg #[.int .u64 0, .int .u64 0, .int .u64 0, .int .u64 0, .int .i64 0, .int .i64 0], .bool false]) (by simp [results, Try.results23, go_sem, cR0, cR1, cR2, cR3, cR4, cR5]) rfl ⟨by rw [HE.out]; rfl, by
    repeat (first | with_reducible exact HB.out | with_reducible refine But.alloc ?_ _ | (with_reducible refine But.setCell ?_ (.inr ?_) _; rotate_left; (simp only []; omega)))⟩
    | true =>
      rw [e1] at G1
      have HO : Hid (ofT ⟨⟨pv, pm⟩, ⟨plo, phi, psl, psh⟩⟩ = tog ⟨⟨pv, pm⟩, ⟨plo, phi, psl, psh⟩⟩) := Lib.hid (by simp [ofT, e0, e1])
      have HW : Hid (Wf ⟨⟨pv, pm⟩, ⟨plo, phi, psl, psh⟩⟩) := Lib.hid (by simp only [spR, Bool.and_eq_true, decide_eq_true_eq] at e1; exact ⟨hr.v, hr.m, e1.1, hr.hi, e1.2, hr.sl, hr.sh⟩)
      have E0 := Lib.hid e0
      clear hr e0 e1
      go_enter Try.func23, Try.ntmps23
      go_wp2_with fail
      refine (G0.out _).mono ?_
      rintro e w8 ⟨rfl, hb8⟩
      have hA : w8.heap[w.heap.size]? = some (.cells #[.int .u64 pv, .int .u64 pm] 24) := hb8.heap (by repeat (first | (with_reducible refine al_eq _ _ _ ?_; (simp only [size_alloc]; done)) | with_reducible refine al_keep ?_ _ | with_reducible refine dr_keep ?_)) (by simp)
      have hS : w8.heap[w.heap.size + 1]? = some (.cells #[.int .u64 plo, .int .u64 phi, .int .i64 psl, .int .i64 psh] 26) := hb8.heap (by repeat (first | (with_reducible refine al_eq _ _ _ ?_; (simp only [size_alloc]; done)) | with_reducible refine al_keep ?_ _ | with_reducible refine dr_keep ?_)) (by simp)
      have hR : w8.heap[w.heap.size + 1 + 1]? = some (.cells #[.int .u64 0, .int .u64 0, .int .u64 0, .int .u64 0, .int .i64 0, .int .i64 0] 28) := hb8.heap (by repeat (first | (with_reducible refine al_eq _ _ _ ?_; (simp only [size_alloc]; done)) | with_reducible refine al_keep ?_ _ | with_reducible refine dr_keep ?_)) (by simp)
      obtain ⟨cA0, cA1⟩ := c2_of hA
      obtain ⟨fA0, fA1⟩ := f2_of hA
      have zA := lt_of hA
      obtain ⟨cS0, cS1, cS2, cS3⟩ := c4_of hS
      obtain ⟨fS0, fS1, fS2, fS3⟩ := f4_of hS
      have zS := lt_of hS
      obtain ⟨cR0, cR1, cR2, cR3, cR4, cR5⟩ := c6_of hR
      obtain ⟨fR0, fR1, fR2, fR3, fR4, fR5⟩ := f6_of hR
      have zR := lt_of hR
      have HB : Hid (But [] w w8) := Lib.hid ((by repeat (first | with_reducible exact But.refl _ _ | with_reducible refine But.drew ?_ | with_reducible refine But.alloc ?_ _) : But [] w _).trans hb8 (by simp))
      have HA := Lib.hid hA
      have HS := Lib.hid hS
      have HR := Lib.hid hR
      clear hA hS hR hb8
      go_wp2_with fail
      refine (G1.out _).mono ?_
      rintro e w9 ⟨rfl, hb9⟩
      have hA : w9.heap[w.heap.size]? = some (.cells #[.int .u64 pv, .int .u64 pm] 24) := hb9.heap (HA.out) (by simp)
      have hS : w9.heap[w.heap.size + 1]? = some (.cells #[.int .u64 plo, .int .u64 phi, .int .i64 psl, .int .i64 psh] 26) := hb9.heap (HS.out) (by simp)
      have hR : w9.heap[w.heap.size + 1 + 1]? = some (.cells #[.int .u64 0, .int .u64 0, .int .u64 0, .int .u64 0, .int .i64 0, .int .i64 0] 28) := hb9.heap (HR.out) (by simp)
      clear zA zS zR
      clear cA0 cA1 cS0 cS1 cS2 cS3 cR0 cR1 cR2 cR3 cR4 cR5
      clear fA0 fA1 fS0 fS1 fS2 fS3 fR0 fR1 fR2 fR3 fR4 fR5
      obtain ⟨cA0, cA1⟩ := c2_of hA
      obtain ⟨fA0, fA1⟩ := f2_of hA
      have zA := lt_of hA
      obtain ⟨cS0, cS1, cS2, cS3⟩ := c4_of hS
      obtain ⟨fS0, fS1, fS2, fS3⟩ := f4_of hS
      have zS := lt_of hS
      obtain ⟨cR0, cR1, cR2, cR3, cR4, cR5⟩ := c6_of hR
      obtain ⟨fR0, fR1, fR2, fR3, fR4, fR5⟩ := f6_of hR
      have zR := lt_of hR
      have HB : Hid (But [] w w9) := Lib.hid ((HB.out).trans hb9 (by simp))
      have HA := Lib.hid hA
      have HS := Lib.hid hS
      have HR := Lib.hid hR
      clear hA hS hR hb9
      obtain ⟨R0, hR0⟩ : ∃ n, n = w.heap.size + 1 + 1 := ⟨_, rfl⟩
      obtain ⟨S0, hS0⟩ : ∃ n, n = w.heap.size + 1 := ⟨_, rfl⟩
      obtain ⟨A0, hA0⟩ : ∃ n, n = w.heap.size := ⟨_, rfl⟩
      have HRT : Hid (RT w A0 S0 R0 ⟨⟨pv, pm⟩, ⟨plo, phi, psl, psh⟩⟩ ⟨⟨pv, pm⟩, ⟨plo, phi, psl, psh⟩⟩ w9) := Lib.hid ⟨HW.out, E0.out, rfl, by rw [hA0]; exact HA.out, by rw [hS0]; exact HS.out, by rw [hR0]; exact HR.out, HB.out⟩
      have HNM : Hid (w.heap.size ≤ A0 ∧ A0 < S0 ∧ S0 < R0) := Lib.hid ⟨by omega, by omega, by omega⟩
      clear cA0 cA1 cS0 cS1 cS2 cS3 cR0 cR1 cR2 cR3 cR4 cR5 fA0 fA1 fS0 fS1 fS2 fS3 fR0 fR1 fR2 fR3 fR4 fR5 zA zS zR HA HS HR HB G0 G1 E0 HW
      go_wp2_with fail
      rw [← hR0, ← hS0, ← hA0]
      clear hR0 hS0 hA0
      go_loopw [] (fun wr => ∃ st, RT w A0 S0 R0 ⟨⟨pv, pm⟩, ⟨plo, phi, psl, psh⟩⟩ st wr) (fun wr => muR A0 S0 wr)
      case atStart => exact ⟨_, HRT.out⟩
      case round =>
        obtain ⟨⟨⟨v, m⟩, ⟨lo, hi, sl, sh⟩⟩, hT⟩ := hrel
        have HA := Lib.hid hT.a
        have HS := Lib.hid hT.b
        have HR := Lib.hid hT.r
        have HT := Lib.hid hT
        have HB := Lib.hid hT.but
        clear hT HRT
        have HN0 : Hid (w.heap.size ≤ A0 ∧ A0 < S0 ∧ S0 < R0 ∧ R0 < wr.heap.size) := Lib.hid ⟨HNM.out.1, HNM.out.2.1, HNM.out.2.2, lt_of HR.out⟩
        obtain ⟨a1, ha1⟩ : ∃ x, x = max lo v := ⟨_, rfl⟩
        obtain ⟨b1, hb1⟩ : ∃ x, x = min hi (uor v m) := ⟨_, rfl⟩
        have hmx : max (lo : Int) (v : Int) = (a1 : Int) := by rw [ha1]; first | done | omega
        have hmn : min (hi : Int) ((uor v m : Nat) : Int) = (b1 : Int) := by rw [hb1]; first | done | omega
        have E1 : Hid (rk 0 ⟨⟨v, m⟩, ⟨lo, hi, sl, sh⟩⟩ = ⟨⟨v, m⟩, ⟨a1, b1, sl, sh⟩⟩ ∧ okk 0 ⟨⟨v, m⟩, ⟨lo, hi, sl, sh⟩⟩ = decide (a1 ≤ b1)) := Lib.hid ⟨by simp only [rk, r1, ha1, hb1], by simp only [okk, ok1, ha1, hb1]⟩
        have BD : Hid (a1 < 18446744073709551616 ∧ b1 < 18446744073709551616) := Lib.hid (by have h1 := HT.out.wf.u; have h2 := HT.out.wf.hi; have h3 := HT.out.wf.v; simp only at h1 h2 h3; omega)
        clear ha1 hb1
        have hx := HA.out
        obtain ⟨cA0, cA1⟩ := c2_of hx
        obtain ⟨fA0, fA1⟩ := f2_of hx
        have zA := lt_of hx
        clear hx
        have hx := HS.out
        obtain ⟨cS0, cS1, cS2, cS3⟩ := c4_of hx
        obtain ⟨fS0, fS1, fS2, fS3⟩ := f4_of hx
        have zS := lt_of hx
        clear hx
        go_upto_region 4 with (fail)
        generalize hw : World.alloc wr _ = w1
        have hA : w1.heap[A0]? = some (.cells #[.int .u64 v, .int .u64 m] 24) := by rw [← hw]; exact al_keep HA.out _
        have hS : w1.heap[S0]? = some (.cells #[.int .u64 lo, .int .u64 hi, .int .i64 sl, .int .i64 sh] 26) := by rw [← hw]; exact al_keep HS.out _
        have hR : w1.heap[R0]? = some (.cells #[.int .u64 0, .int .u64 0, .int .u64 0, .int .u64 0, .int .i64 0, .int .i64 0] 28) := by rw [← hw]; exact al_keep HR.out _
        have hK : w1.heap[wr.heap.size]? = some (.cells #[.int .u64 v, .int .u64 m, .int .u64 lo, .int .u64 hi, .int .i64 sl, .int .i64 sh] 28) := by rw [← hw]; exact al_at _ _
        have HB2 : Hid (But [] w w1) := Lib.hid (by rw [← hw]; exact HB.out.alloc _)
        clear zA zS cA0 cA1 cS0 cS1 cS2 cS3 fA0 fA1 fS0 fS1 fS2 fS3
        clear hw HB HA HS HR
        have HB := HB2
        clear HB2
        have HA := Lib.hid hA
        clear hA
        have HS := Lib.hid hS
        clear hS
        have HR := Lib.hid hR
        clear hR
        have HK := Lib.hid hK
        clear hK
        obtain ⟨n1, n2, n3, n4⟩ := HN0.out
        have hx := HA.out
        obtain ⟨cA0, cA1⟩ := c2_of hx
        obtain ⟨fA0, fA1⟩ := f2_of hx
        have zA := lt_of hx
        clear hx
        have hx := HS.out
        obtain ⟨cS0, cS1, cS2, cS3⟩ := c4_of hx
        obtain ⟨fS0, fS1, fS2, fS3⟩ := f4_of hx
        have zS := lt_of hx
        clear hx
        go_upto_region 6 with (fail)
        generalize hw : World.setCell (World.setCell w1 _ _) _ _ = w2
        have hA : w2.heap[A0]? = some (.cells #[.int .u64 v, .int .u64 m] 24) := by rw [← hw]; exact sc_keep (sc_keep HA.out (by have h1 := HN0.out; simp only [ne_eq]; omega)) (by have h1 := HN0.out; simp only [ne_eq]; omega)
        have hS : w2.heap[S0]? = some (.cells #[.int .u64 a1, .int .u64 b1, .int .i64 sl, .int .i64 sh] 26) := by rw [← hw]; exact set401 HS.out
        have hR : w2.heap[R0]? = some (.cells #[.int .u64 0, .int .u64 0, .int .u64 0, .int .u64 0, .int .i64 0, .int .i64 0] 28) := by rw [← hw]; exact sc_keep (sc_keep HR.out (by have h1 := HN0.out; simp only [ne_eq]; omega)) (by have h1 := HN0.out; simp only [ne_eq]; omega)
        have hK : w2.heap[wr.heap.size]? = some (.cells #[.int .u64 v, .int .u64 m, .int .u64 lo, .int .u64 hi, .int .i64 sl, .int .i64 sh] 28) := by rw [← hw]; exact sc_keep (sc_keep HK.out (by have h1 := HN0.out; simp only [ne_eq]; omega)) (by have h1 := HN0.out; simp only [ne_eq]; omega)
        have HB2 : Hid (But [] w w2) := Lib.hid (by rw [← hw]; exact (HB.out.setCell (.inr (by have h1 := HN0.out; simp only []; omega)) _).setCell (.inr (by have h1 := HN0.out; simp only []; omega)) _)
        clear zA zS cA0 cA1 cS0 cS1 cS2 cS3 fA0 fA1 fS0 fS1 fS2 fS3
        clear hw HB HA HS HR HK
        have HB := HB2
        clear HB2
        have HA := Lib.hid hA
        clear hA
        have HS := Lib.hid hS
        clear hS
        have HR := Lib.hid hR
        clear hR
        have HK := Lib.hid hK
        clear hK
        clear hmx hmn
        have hx := HS.out
        obtain ⟨cS0, cS1, cS2, cS3⟩ := c4_of hx
        obtain ⟨fS0, fS1, fS2, fS3⟩ := f4_of hx
        have zS := lt_of hx
        clear hx
        by_cases k1 : a1 ≤ b1
        · have hlt : ¬ b1 < a1 := by omega
          obtain ⟨⟨rv, rm⟩, hrr⟩ : ∃ r : Tn, r = rangeT a1 b1 := ⟨_, rfl⟩
          have HRG := Lib.hid (fun w => r17Range a1 b1 w BD.out.1 BD.out.2 k1)
          rw [← hrr] at HRG
          have hrv : rv < 18446744073709551616 := by have h := undn_lt a1 (maskN (lenX a1 b1)); have h2 : rv = (rangeT a1 b1).v := congrArg (fun t : Tn => t.v) hrr; rw [h2]; exact h
          have hvv : v < 18446744073709551616 := HT.out.wf.v
          have hmt := fun w => r17Meet v m rv rm w hvv hrv
          obtain ⟨⟨tv, tm⟩, ht⟩ : ∃ r : Tn, r = meetT ⟨v, m⟩ ⟨rv, rm⟩ := ⟨_, rfl⟩
          obtain ⟨mb, hmb⟩ : ∃ b, b = meetB ⟨v, m⟩ ⟨rv, rm⟩ := ⟨_, rfl⟩
          rw [← ht, ← hmb] at hmt
          have HMT := Lib.hid hmt
          have E2 : Hid (rk 1 ⟨⟨v, m⟩, ⟨a1, b1, sl, sh⟩⟩ = ⟨⟨tv, tm⟩, ⟨a1, b1, sl, sh⟩⟩ ∧ okk 1 ⟨⟨v, m⟩, ⟨a1, b1, sl, sh⟩⟩ = mb) := Lib.hid ⟨by simp only [rk, r2]; rw [← hrr, ← ht], by simp only [okk, ok2]; rw [← hrr, ← hmb]⟩
          have K1 := Lib.hid k1
          unfold Tn.val at HRG HMT
          clear hrr hmt ht hmb hrv hvv k1
          clear zS cS0 cS1 cS2 cS3 fS0 fS1 fS2 fS3
          have hx := HA.out
          obtain ⟨cA0, cA1⟩ := c2_of hx
          obtain ⟨fA0, fA1⟩ := f2_of hx
          have zA := lt_of hx
          clear hx
          have hx := HS.out
          obtain ⟨cS0, cS1, cS2, cS3⟩ := c4_of hx
          obtain ⟨fS0, fS1, fS2, fS3⟩ := f4_of hx
          have zS := lt_of hx
          clear hx
          have HS0 : Hid (∀ wx, But [] w2 wx → But [] w2 wx ∧ wx.cell? ⟨A0, 0, none⟩ = some (.int .u64 v) ∧ wx.cell? ⟨A0, 1, none⟩ = some (.int .u64 m) ∧ wx.cell? ⟨S0, 0, none⟩ = some (.int .u64 a1) ∧ wx.cell? ⟨S0, 1, none⟩ = some (.int .u64 b1) ∧ wx.cell? ⟨S0, 2, none⟩ = some (.int .i64 sl) ∧ wx.cell? ⟨S0, 3, none⟩ = some (.int .i64 sh)) := Lib.hid (fun wx hb => by
            have h1 := hb.heap HA.out (by simp)
            have h2 := hb.heap HS.out (by simp)
            exact ⟨hb, cl_of h1 0, cl_of h1 1, cl_of h2 0, cl_of h2 1, cl_of h2 2, cl_of h2 3⟩)
          go_upto_region 8 with (fail)
          go_cut [7, 8] from 43 to 52 (fun s t wx => ∃ q, s = .pointer (some ⟨q, 0, none⟩) ∧ t = .bool mb ∧ w2.heap.size ≤ q ∧ wx.heap[q]? = some (.cells #[.int .u64 tv, .int .u64 tm] 24) ∧ But [] w2 wx)
          case first =>
            go_region_held3 (fun wx => But [] w2 wx ∧ wx.cell? ⟨A0, 0, none⟩ = some (.int .u64 v) ∧ wx.cell? ⟨A0, 1, none⟩ = some (.int .u64 m) ∧ wx.cell? ⟨S0, 0, none⟩ = some (.int .u64 a1) ∧ wx.cell? ⟨S0, 1, none⟩ = some (.int .u64 b1) ∧ wx.cell? ⟨S0, 2, none⟩ = some (.int .i64 sl) ∧ wx.cell? ⟨S0, 3, none⟩ = some (.int .i64 sh)) (first | assumption | exact HS0.out _ (by (repeat (first | assumption | with_reducible exact But.refl _ _ | with_reducible refine But.drew ?_ | with_reducible refine But.alloc ?_ _ | with_reducible refine But.setCell ?_ (.inr ?_) _ | exact Nat.le_refl _ | exact hB6.size | exact hB5.size)))) (first | (go_at_call 45; refine (HRG.out _).mono ?_; rintro e w5 ⟨rfl, hb5⟩; have hB5 : But [] w2 w5 := (by (repeat (first | assumption | with_reducible exact But.refl _ _ | with_reducible refine But.drew ?_ | with_reducible refine But.alloc ?_ _ | with_reducible refine But.setCell ?_ (.inr ?_) _ | exact Nat.le_refl _ | exact hB6.size | exact hB5.size)) : But [] w2 _).trans hb5 (by simp); first | (have q5 := hb5.heap (heap_alloc_new _ _) (by simp); have q50 := cl_of q5 0; have q51 := cl_of q5 1; have f50 := fz_of q5 0; have f51 := fz_of q5 1; simp at q50 q51 f50 f51) | skip; clear hb5; have hk5 := HS0.out w5 hB5) | (go_at_call 44; refine (HMT.out _).mono ?_; rintro e w6 ⟨rfl, hb6⟩; have hB6 : But [] w2 w6 := (by (repeat (first | assumption | with_reducible exact But.refl _ _ | with_reducible refine But.drew ?_ | with_reducible refine But.alloc ?_ _ | with_reducible refine But.setCell ?_ (.inr ?_) _ | exact Nat.le_refl _ | exact hB6.size | exact hB5.size)) : But [] w2 _).trans hb6 (by simp); first | (have q6 := hb6.heap q5 (by simp); have q60 := cl_of q6 0; have q61 := cl_of q6 1; have f60 := fz_of q6 0; have f61 := fz_of q6 1; simp at q60 q61 f60 f61) | (have q6 := hb6.heap (heap_alloc_new _ _) (by simp); have q60 := cl_of q6 0; have q61 := cl_of q6 1; have f60 := fz_of q6 0; have f61 := fz_of q6 1; simp at q60 q61 f60 f61) | skip; clear hb6; have hk6 := HS0.out w6 hB6))
            all_goals (go_wp2_with fail)
            all_goals go_meet
            · exact ⟨_, rfl, rfl, hB6.size, heap_alloc_new _ _, hB6.alloc _⟩
            · exact ⟨_, rfl, rfl, hB5.size, set2 q6, (hB6.setCell (.inr hB5.size) _).setCell (.inr hB5.size) _⟩
            · exact ⟨_, rfl, rfl, Nat.le_refl _, set2 q6, (hB6.setCell (.inr (Nat.le_refl _)) _).setCell (.inr (Nat.le_refl _)) _⟩
          case rest =>
            obtain ⟨q, rfl, rfl, hqn, hq, hb⟩ := hcut
            refine (by assumption : ∀ (a : Act) (w1 : World), Code.wp _ _ _ a w1 → _) _ _ ?_
            have hA : wc.heap[A0]? = some (.cells #[.int .u64 v, .int .u64 m] 24) := hb.heap HA.out (by simp)
            have hS : wc.heap[S0]? = some (.cells #[.int .u64 a1, .int .u64 b1, .int .i64 sl, .int .i64 sh] 26) := hb.heap HS.out (by simp)
            have hR : wc.heap[R0]? = some (.cells #[.int .u64 0, .int .u64 0, .int .u64 0, .int .u64 0, .int .i64 0, .int .i64 0] 28) := hb.heap HR.out (by simp)
            have hK : wc.heap[wr.heap.size]? = some (.cells #[.int .u64 v, .int .u64 m, .int .u64 lo, .int .u64 hi, .int .i64 sl, .int .i64 sh] 28) := hb.heap HK.out (by simp)
            have HQN : Hid (R0 < q ∧ wr.heap.size < q) := Lib.hid (by have h1 := HN0.out; have h2 := lt_of HK.out; omega)
            have hbt := HB.out.trans hb (by simp)
            clear hb HS0
            have hb := hbt
            clear hbt
            clear zA zS cA0 cA1 cS0 cS1 cS2 cS3 fA0 fA1 fS0 fS1 fS2 fS3
            clear HB HA HS HR HK
            have HA := Lib.hid hA
            clear hA
            have HS := Lib.hid hS
            clear hS
            have HR := Lib.hid hR
            clear hR
            have HK := Lib.hid hK
            clear hK
            have HQ := Lib.hid hq
            clear hq hqn
            have HB := Lib.hid hb
            clear hb
            cases mb with
            | false =>
              have HE : Hid (tog ⟨⟨pv, pm⟩, ⟨plo, phi, psl, psh⟩⟩ = none) := Lib.hid (by rw [← HT.out.same]; exact tog_none (round_n2 (by rw [E1.out.2]; exact decide_eq_true K1.out) (by rw [E1.out.1]; exact E2.out.2)))
              clear HT
              go_upto_if 54 with (fail)
              have hx := HR.out
              obtain ⟨cR0, cR1, cR2, cR3, cR4, cR5⟩ := c6_of hx
              obtain ⟨fR0, fR1, fR2, fR3, fR4, fR5⟩ := f6_of hx
              have zR := lt_of hx
              clear hx
              repeat (first | go_values | go_skip | go_guarded | go_step | go_upon)
              exact bodyPost_ret (v := .tuple #[.agg #[.int .u64 0, .int .u64 0, .int .u64 0, .int .u64 0, .int .i64 0, .int .i64 0], .bool false]) (by simp [results, Try.results23, go_sem, cR0, cR1, cR2, cR3, cR4, cR5]) rfl ⟨by rw [HO.out, HE.out]; rfl, by
    repeat (first | with_reducible exact HB.out | with_reducible refine But.alloc ?_ _ | (with_reducible refine But.setCell ?_ (.inr ?_) _; rotate_left; (simp only []; omega)))⟩
            | true =>
              have hx := HA.out
              obtain ⟨cA0, cA1⟩ := c2_of hx
              obtain ⟨fA0, fA1⟩ := f2_of hx
              have zA := lt_of hx
              clear hx
              have hx := HQ.out
              obtain ⟨cQ0, cQ1⟩ := c2_of hx
              have zQ := lt_of hx
              clear hx
              have hqn := HQN.out
              go_upto_region 12 with (fail)
              generalize hw : World.setCell (World.setCell wc _ _) _ _ = w3
              have hA : w3.heap[A0]? = some (.cells #[.int .u64 tv, .int .u64 tm] 24) := by rw [← hw]; exact set2 HA.out
              have hS : w3.heap[S0]? = some (.cells #[.int .u64 a1, .int .u64 b1, .int .i64 sl, .int .i64 sh] 26) := by rw [← hw]; exact sc_keep (sc_keep HS.out (by have h1 := HN0.out; simp only [ne_eq]; omega)) (by have h1 := HN0.out; simp only [ne_eq]; omega)
              have hR : w3.heap[R0]? = some (.cells #[.int .u64 0, .int .u64 0, .int .u64 0, .int .u64 0, .int .i64 0, .int .i64 0] 28) := by rw [← hw]; exact sc_keep (sc_keep HR.out (by have h1 := HN0.out; simp only [ne_eq]; omega)) (by have h1 := HN0.out; simp only [ne_eq]; omega)
              have hK : w3.heap[wr.heap.size]? = some (.cells #[.int .u64 v, .int .u64 m, .int .u64 lo, .int .u64 hi, .int .i64 sl, .int .i64 sh] 28) := by rw [← hw]; exact sc_keep (sc_keep HK.out (by have h1 := HN0.out; simp only [ne_eq]; omega)) (by have h1 := HN0.out; simp only [ne_eq]; omega)
              have HB2 : Hid (But [] w w3) := Lib.hid (by rw [← hw]; exact (HB.out.setCell (.inr (by have h1 := HN0.out; simp only []; omega)) _).setCell (.inr (by have h1 := HN0.out; simp only []; omega)) _)
              clear zA zQ cA0 cA1 cQ0 cQ1 fA0 fA1
              clear hw HB HA HS HR HK
              have HB := HB2
              clear HB2
              have HA := Lib.hid hA
              clear hA
              have HS := Lib.hid hS
              clear hS
              have HR := Lib.hid hR
              clear hR
              have HK := Lib.hid hK
              clear hK
              clear HQ
              obtain ⟨sl3, hsl3⟩ : ∃ x, x = (rk 2 ⟨⟨tv, tm⟩, ⟨a1, b1, sl, sh⟩⟩).s.sl := ⟨_, rfl⟩
              obtain ⟨sh3, hsh3⟩ : ∃ x, x = (rk 2 ⟨⟨tv, tm⟩, ⟨a1, b1, sl, sh⟩⟩).s.sh := ⟨_, rfl⟩
              have E3 : Hid (rk 2 ⟨⟨tv, tm⟩, ⟨a1, b1, sl, sh⟩⟩ = ⟨⟨tv, tm⟩, ⟨a1, b1, sl3, sh3⟩⟩) := Lib.hid (by rw [hsl3, hsh3]; simp only [rk, r3]; split <;> rfl)
              clear hsl3 hsh3
              have hx := HS.out
              obtain ⟨cS0, cS1, cS2, cS3⟩ := c4_of hx
              obtain ⟨fS0, fS1, fS2, fS3⟩ := f4_of hx
              have zS := lt_of hx
              clear hx
              go_upto_if 63 with (fail)
              go_cut [] from 63 to 77 (fun wx => wx.heap[A0]? = some (.cells #[.int .u64 tv, .int .u64 tm] 24) ∧ wx.heap[S0]? = some (.cells #[.int .u64 a1, .int .u64 b1, .int .i64 sl3, .int .i64 sh3] 26) ∧ wx.heap[R0]? = some (.cells #[.int .u64 0, .int .u64 0, .int .u64 0, .int .u64 0, .int .i64 0, .int .i64 0] 28) ∧ wx.heap[wr.heap.size]? = some (.cells #[.int .u64 v, .int .u64 m, .int .u64 lo, .int .u64 hi, .int .i64 sl, .int .i64 sh] 28) ∧ But [] w wx)
              case first =>
                cases hf : far3 ⟨⟨tv, tm⟩, ⟨a1, b1, sl, sh⟩⟩ with
                | true =>
                  have hF : (((a1 : Int) / 9223372036854775808) == ((b1 : Int) / 9223372036854775808)) = false := by simpa [far3, bne] using hf
                  have e3 : sl3 = sl ∧ sh3 = sh := by have h := E3.out; simp only [rk, r3, hf, if_true] at h; simp only [Sc.mk.injEq, Sp.mk.injEq] at h; omega
                  obtain ⟨rfl, rfl⟩ := e3
                  clear hf
                  go_wp2_with fail
                  all_goals go_meet
                  all_goals exact ⟨HA.out, HS.out, HR.out, HK.out, HB.out⟩
                | false =>
                  have hF : (((a1 : Int) / 9223372036854775808) == ((b1 : Int) / 9223372036854775808)) = true := by simpa [far3, bne] using hf
                  have e3 : max sl (toS a1) = sl3 ∧ min sh (toS b1) = sh3 := by have h := E3.out; simp only [rk, r3, hf, Bool.false_eq_true, if_false] at h; simp only [Sc.mk.injEq, Sp.mk.injEq, true_and] at h; exact h
                  obtain ⟨e3a, e3b⟩ := e3
                  unfold toS at e3a e3b
                  have w3a : max sl (wrap64 (a1 : Int)) = sl3 := by rw [← e3a, IntKind.wrap_i64, wrap64]
                  have w3b : min sh (wrap64 (b1 : Int)) = sh3 := by rw [← e3b, IntKind.wrap_i64, wrap64]
                  clear hf
                  go_wp2_with fail
                  all_goals go_meet
                  all_goals exact ⟨sc_keep (sc_keep HA.out (by have h1 := HN0.out; simp only [ne_eq]; omega)) (by have h1 := HN0.out; simp only [ne_eq]; omega), set423 HS.out, sc_keep (sc_keep HR.out (by have h1 := HN0.out; simp only [ne_eq]; omega)) (by have h1 := HN0.out; simp only [ne_eq]; omega), sc_keep (sc_keep HK.out (by have h1 := HN0.out; simp only [ne_eq]; omega)) (by have h1 := HN0.out; simp only [ne_eq]; omega), (HB.out.setCell (.inr (by have h1 := HN0.out; simp only []; omega)) _).setCell (.inr (by have h1 := HN0.out; simp only []; omega)) _⟩
              case rest =>
                obtain ⟨hA, hS, hR, hK, hb⟩ := hcut
                refine (by assumption : ∀ (a : Act) (w1 : World), Code.wp _ _ _ a w1 → _) _ _ ?_
                rename World => wd
                clear zS cS0 cS1 cS2 cS3 fS0 fS1 fS2 fS3
                clear HB HA HS HR HK
                have HA := Lib.hid hA
                clear hA
                have HS := Lib.hid hS
                clear hS
                have HR := Lib.hid hR
                clear hR
                have HK := Lib.hid hK
                clear hK
                have HB := Lib.hid hb
                clear hb
                have OK3 : Hid (okk 2 ⟨⟨tv, tm⟩, ⟨a1, b1, sl, sh⟩⟩ = decide (sl3 ≤ sh3)) := Lib.hid (by
                  have hi := HT.out.wf.i
                  have h := E3.out
                  cases hf : far3 ⟨⟨tv, tm⟩, ⟨a1, b1, sl, sh⟩⟩ with
                  | true => simp only [rk, r3, hf, if_true] at h; simp only [Sc.mk.injEq, Sp.mk.injEq] at h; simp only [okk, ok3, hf, Bool.true_or]; symm; exact decide_eq_true (by simp only at hi; omega)
                  | false => simp only [rk, r3, hf, Bool.false_eq_true, if_false] at h; simp only [Sc.mk.injEq, Sp.mk.injEq, true_and] at h; simp only [okk, ok3, hf, Bool.false_or]; rw [h.1, h.2])
                have hx := HS.out
                obtain ⟨cS0, cS1, cS2, cS3⟩ := c4_of hx
                obtain ⟨fS0, fS1, fS2, fS3⟩ := f4_of hx
                have zS := lt_of hx
                clear hx
                by_cases k3 : sl3 ≤ sh3
                · have hlt : ¬ sh3 < sl3 := by omega
                  have K3 := Lib.hid k3
                  clear k3
                  obtain ⟨lo4, hlo4⟩ : ∃ x, x = (rk 3 ⟨⟨tv, tm⟩, ⟨a1, b1, sl3, sh3⟩⟩).s.lo := ⟨_, rfl⟩
                  obtain ⟨hi4, hhi4⟩ : ∃ x, x = (rk 3 ⟨⟨tv, tm⟩, ⟨a1, b1, sl3, sh3⟩⟩).s.hi := ⟨_, rfl⟩
                  have E4 : Hid (rk 3 ⟨⟨tv, tm⟩, ⟨a1, b1, sl3, sh3⟩⟩ = ⟨⟨tv, tm⟩, ⟨lo4, hi4, sl3, sh3⟩⟩) := Lib.hid (by rw [hlo4, hhi4]; simp only [rk, r4]; split <;> rfl)
                  clear hlo4 hhi4
                  go_upto_if 90 with (fail)
                  go_cut [] from 85 to 104 (fun wx => wx.heap[A0]? = some (.cells #[.int .u64 tv, .int .u64 tm] 24) ∧ wx.heap[S0]? = some (.cells #[.int .u64 lo4, .int .u64 hi4, .int .i64 sl3, .int .i64 sh3] 26) ∧ wx.heap[R0]? = some (.cells #[.int .u64 0, .int .u64 0, .int .u64 0, .int .u64 0, .int .i64 0, .int .i64 0] 28) ∧ wx.heap[wr.heap.size]? = some (.cells #[.int .u64 v, .int .u64 m, .int .u64 lo, .int .u64 hi, .int .i64 sl, .int .i64 sh] 28) ∧ But [] w wx)
                  case first =>
                    by_cases p3 : sl3 < 0
                    · by_cases p4 : sh3 < 0
                      · have hF : (decide (sl3 < 0) == decide (sh3 < 0)) = true := by simp [p3, p4]
                        have hI : (sl3 < 0 ↔ sh3 < 0) := by simp [p3, p4]
                        have hf : far4 ⟨⟨tv, tm⟩, ⟨a1, b1, sl3, sh3⟩⟩ = false := by simp [far4, p3, p4]
                        have e4 : max a1 (toU sl3) = lo4 ∧ min b1 (toU sh3) = hi4 := by have h := E4.out; simp only [rk, r4, hf, Bool.false_eq_true, if_false] at h; simp only [Sc.mk.injEq, Sp.mk.injEq, true_and] at h; exact ⟨h.1, h.2.1⟩
                        obtain ⟨e4a, e4b⟩ := e4
                        have f4a : max (a1 : Int) (IntKind.u64.wrap sl3) = (lo4 : Int) := by rw [toU_wrap, ← e4a]; first | done | omega
                        have f4b : min (b1 : Int) (IntKind.u64.wrap sh3) = (hi4 : Int) := by rw [toU_wrap, ← e4b]; first | done | omega
                        clear hf e4a e4b
                        go_wp2_with fail
                        all_goals try (rename_i hbad; exact absurd (hF.symm.trans hbad) (by decide))
                        all_goals go_meet
                        all_goals exact ⟨sc_keep (sc_keep HA.out (by have h1 := HN0.out; simp only [ne_eq]; omega)) (by have h1 := HN0.out; simp only [ne_eq]; omega), set401 HS.out, sc_keep (sc_keep HR.out (by have h1 := HN0.out; simp only [ne_eq]; omega)) (by have h1 := HN0.out; simp only [ne_eq]; omega), sc_keep (sc_keep HK.out (by have h1 := HN0.out; simp only [ne_eq]; omega)) (by have h1 := HN0.out; simp only [ne_eq]; omega), (HB.out.setCell (.inr (by have h1 := HN0.out; simp only []; omega)) _).setCell (.inr (by have h1 := HN0.out; simp only []; omega)) _⟩
                      · have hF : (decide (sl3 < 0) == decide (sh3 < 0)) = false := by simp [p3, p4]
                        have hI : ¬ (sl3 < 0 ↔ sh3 < 0) := by simp [p3, p4]
                        have hf : far4 ⟨⟨tv, tm⟩, ⟨a1, b1, sl3, sh3⟩⟩ = true := by simp [far4, p3, p4]
                        have e4 : lo4 = a1 ∧ hi4 = b1 := by have h := E4.out; simp only [rk, r4, hf, if_true] at h; simp only [Sc.mk.injEq, Sp.mk.injEq] at h; omega
                        obtain ⟨rfl, rfl⟩ := e4
                        clear hf
                        go_wp2_with fail
                        all_goals try (rename_i hbad; exact absurd (hF.symm.trans hbad) (by decide))
                        all_goals go_meet
                        all_goals exact ⟨HA.out, HS.out, HR.out, HK.out, HB.out⟩
                    · by_cases p4 : sh3 < 0
                      · have hF : (decide (sl3 < 0) == decide (sh3 < 0)) = false := by simp [p3, p4]
                        have hI : ¬ (sl3 < 0 ↔ sh3 < 0) := by simp [p3, p4]
                        have hf : far4 ⟨⟨tv, tm⟩, ⟨a1, b1, sl3, sh3⟩⟩ = true := by simp [far4, p3, p4]
                        have e4 : lo4 = a1 ∧ hi4 = b1 := by have h := E4.out; simp only [rk, r4, hf, if_true] at h; simp only [Sc.mk.injEq, Sp.mk.injEq] at h; omega
                        obtain ⟨rfl, rfl⟩ := e4
                        clear hf
                        go_wp2_with fail
                        all_goals try (rename_i hbad; exact absurd (hF.symm.trans hbad) (by decide))
                        all_goals go_meet
                        all_goals exact ⟨HA.out, HS.out, HR.out, HK.out, HB.out⟩
                      · have hF : (decide (sl3 < 0) == decide (sh3 < 0)) = true := by simp [p3, p4]
                        have hI : (sl3 < 0 ↔ sh3 < 0) := by simp [p3, p4]
                        have hf : far4 ⟨⟨tv, tm⟩, ⟨a1, b1, sl3, sh3⟩⟩ = false := by simp [far4, p3, p4]
                        have e4 : max a1 (toU sl3) = lo4 ∧ min b1 (toU sh3) = hi4 := by have h := E4.out; simp only [rk, r4, hf, Bool.false_eq_true, if_false] at h; simp only [Sc.mk.injEq, Sp.mk.injEq, true_and] at h; exact ⟨h.1, h.2.1⟩
                        obtain ⟨e4a, e4b⟩ := e4
                        have f4a : max (a1 : Int) (IntKind.u64.wrap sl3) = (lo4 : Int) := by rw [toU_wrap, ← e4a]; first | done | omega
                        have f4b : min (b1 : Int) (IntKind.u64.wrap sh3) = (hi4 : Int) := by rw [toU_wrap, ← e4b]; first | done | omega
                        clear hf e4a e4b
                        go_wp2_with fail
                        all_goals try (rename_i hbad; exact absurd (hF.symm.trans hbad) (by decide))
                        all_goals go_meet
                        all_goals exact ⟨sc_keep (sc_keep HA.out (by have h1 := HN0.out; simp only [ne_eq]; omega)) (by have h1 := HN0.out; simp only [ne_eq]; omega), set401 HS.out, sc_keep (sc_keep HR.out (by have h1 := HN0.out; simp only [ne_eq]; omega)) (by have h1 := HN0.out; simp only [ne_eq]; omega), sc_keep (sc_keep HK.out (by have h1 := HN0.out; simp only [ne_eq]; omega)) (by have h1 := HN0.out; simp only [ne_eq]; omega), (HB.out.setCell (.inr (by have h1 := HN0.out; simp only []; omega)) _).setCell (.inr (by have h1 := HN0.out; simp only []; omega)) _⟩
                  case rest =>
                    obtain ⟨hA, hS, hR, hK, hb⟩ := hcut
                    refine (by assumption : ∀ (a : Act) (w1 : World), Code.wp _ _ _ a w1 → _) _ _ ?_
                    rename World => we
                    clear zS cS0 cS1 cS2 cS3 fS0 fS1 fS2 fS3
                    clear HB HA HS HR HK
                    have HA := Lib.hid hA
                    clear hA
                    have HS := Lib.hid hS
                    clear hS
                    have HR := Lib.hid hR
                    clear hR
                    have HK := Lib.hid hK
                    clear hK
                    have HB := Lib.hid hb
                    clear hb
                    have OK4 : Hid (okk 3 ⟨⟨tv, tm⟩, ⟨a1, b1, sl3, sh3⟩⟩ = decide (lo4 ≤ hi4)) := Lib.hid (by
                      have h := E4.out
                      have hk1 := K1.out
                      cases hf : far4 ⟨⟨tv, tm⟩, ⟨a1, b1, sl3, sh3⟩⟩ with
                      | true => simp only [rk, r4, hf, if_true] at h; simp only [Sc.mk.injEq, Sp.mk.injEq] at h; simp only [okk, ok4, hf, Bool.true_or]; symm; exact decide_eq_true (by omega)
                      | false => simp only [rk, r4, hf, Bool.false_eq_true, if_false] at h; simp only [Sc.mk.injEq, Sp.mk.injEq, true_and] at h; simp only [okk, ok4, hf, Bool.false_or]; rw [h.1, h.2.1])
                    have RA : Hid (round ⟨⟨v, m⟩, ⟨lo, hi, sl, sh⟩⟩ = stepR 3 ⟨⟨tv, tm⟩, ⟨a1, b1, sl3, sh3⟩⟩) := Lib.hid (round_at (by rw [E1.out.2]; exact decide_eq_true K1.out) E1.out.1 E2.out.2 E2.out.1 (by rw [OK3.out]; exact decide_eq_true K3.out) E3.out)
                    have hx := HS.out
                    obtain ⟨cS0, cS1, cS2, cS3⟩ := c4_of hx
                    obtain ⟨fS0, fS1, fS2, fS3⟩ := f4_of hx
                    have zS := lt_of hx
                    clear hx
                    by_cases k4 : lo4 ≤ hi4
                    · have hlt4 : ¬ hi4 < lo4 := by omega
                      have RD : Hid (round ⟨⟨v, m⟩, ⟨lo, hi, sl, sh⟩⟩ = some ⟨⟨tv, tm⟩, ⟨lo4, hi4, sl3, sh3⟩⟩) := Lib.hid (by rw [RA.out]; unfold stepR; rw [if_pos (by rw [OK4.out]; exact decide_eq_true k4), E4.out])
                      clear k4
                      have HZ2 : Hid (R0 < we.heap.size ∧ wr.heap.size < we.heap.size) := Lib.hid ⟨lt_of HR.out, lt_of HK.out⟩
                      have hx := HA.out
                      obtain ⟨cA0, cA1⟩ := c2_of hx
                      obtain ⟨fA0, fA1⟩ := f2_of hx
                      have zA := lt_of hx
                      clear hx
                      go_upto_region 23 with (fail)
                      generalize hw : World.alloc we _ = w5
                      have hA : w5.heap[A0]? = some (.cells #[.int .u64 tv, .int .u64 tm] 24) := by rw [← hw]; exact al_keep HA.out _
                      have hS : w5.heap[S0]? = some (.cells #[.int .u64 lo4, .int .u64 hi4, .int .i64 sl3, .int .i64 sh3] 26) := by rw [← hw]; exact al_keep HS.out _
                      have hR : w5.heap[R0]? = some (.cells #[.int .u64 0, .int .u64 0, .int .u64 0, .int .u64 0, .int .i64 0, .int .i64 0] 28) := by rw [← hw]; exact al_keep HR.out _
                      have hK : w5.heap[wr.heap.size]? = some (.cells #[.int .u64 v, .int .u64 m, .int .u64 lo, .int .u64 hi, .int .i64 sl, .int .i64 sh] 28) := by rw [← hw]; exact al_keep HK.out _
                      have hN : w5.heap[we.heap.size]? = some (.cells #[.int .u64 tv, .int .u64 tm, .int .u64 lo4, .int .u64 hi4, .int .i64 sl3, .int .i64 sh3] 28) := by rw [← hw]; exact al_at _ _
                      have HB2 : Hid (But [] w w5) := Lib.hid (by rw [← hw]; exact HB.out.alloc _)
                      clear zS zA cS0 cS1 cS2 cS3 cA0 cA1 fS0 fS1 fS2 fS3 fA0 fA1
                      clear hw HB HA HS HR HK
                      have HB := HB2
                      clear HB2
                      have HA := Lib.hid hA
                      clear hA
                      have HS := Lib.hid hS
                      clear hS
                      have HR := Lib.hid hR
                      clear hR
                      have HK := Lib.hid hK
                      clear hK
                      have HN := Lib.hid hN
                      clear hN
                      obtain ⟨z1, z2⟩ := HZ2.out
                      by_cases heq : tv = v ∧ tm = m ∧ lo4 = lo ∧ hi4 = hi ∧ sl3 = sl ∧ sh3 = sh
                      · have HE : Hid (tog ⟨⟨pv, pm⟩, ⟨plo, phi, psl, psh⟩⟩ = some ⟨⟨tv, tm⟩, ⟨lo4, hi4, sl3, sh3⟩⟩) := Lib.hid (by
                          obtain ⟨e1, e2, e3, e4, e5, e6⟩ := heq
                          have h := RD.out
                          rw [← HT.out.same]
                          rw [← e1, ← e2, ← e3, ← e4, ← e5, ← e6] at h ⊢
                          exact tog_same h)
                        obtain ⟨e1, e2, e3, e4, e5, e6⟩ := heq
                        have b1 : ((tv : Int) == (v : Int)) = true := beq_of_eqN e1
                        have b2 : ((tm : Int) == (m : Int)) = true := beq_of_eqN e2
                        have b3 : ((lo4 : Int) == (lo : Int)) = true := beq_of_eqN e3
                        have b4 : ((hi4 : Int) == (hi : Int)) = true := beq_of_eqN e4
                        have b5 : ((sl3 : Int) == (sl : Int)) = true := beq_of_eqNI e5
                        have b6 : ((sh3 : Int) == (sh : Int)) = true := beq_of_eqNI e6
                        clear e1 e2 e3 e4 e5 e6 HT RD RA OK4 OK3 E1 E2 E3 E4
                        have hx := HN.out
                        obtain ⟨cN0, cN1, cN2, cN3, cN4, cN5⟩ := c6_of hx
                        have zN := lt_of hx
                        clear hx
                        have hx := HK.out
                        obtain ⟨cK0, cK1, cK2, cK3, cK4, cK5⟩ := c6_of hx
                        have zK := lt_of hx
                        clear hx
                        go_upto_if 116 with (fail)
                        clear zN zK cN0 cN1 cN2 cN3 cN4 cN5 cK0 cK1 cK2 cK3 cK4 cK5 
                        have hx := HN.out
                        obtain ⟨cN0, cN1, cN2, cN3, cN4, cN5⟩ := c6_of hx
                        have zN := lt_of hx
                        clear hx
                        have hx := HR.out
                        obtain ⟨cR0, cR1, cR2, cR3, cR4, cR5⟩ := c6_of hx
                        obtain ⟨fR0, fR1, fR2, fR3, fR4, fR5⟩ := f6_of hx
                        have zR := lt_of hx
                        clear hx
                        repeat (first | go_values | go_skip | go_guarded | go_step | go_upon)
                        exact bodyPost_ret (v := .tuple #[.agg #[.int .u64 tv, .int .u64 tm, .int .u64 lo4, .int .u64 hi4, .int .i64 sl3, .int .i64 sh3], .bool true]) (by simp [results, Try.results23, go_sem, cR0, cR1, cR2, cR3, cR4, cR5]) rfl ⟨by rw [HO.out, HE.out]; rfl, by
    repeat (first | with_reducible exact HB.out | with_reducible refine But.alloc ?_ _ | (with_reducible refine But.setCell ?_ (.inr ?_) _; rotate_left; (simp only []; omega)))⟩
                      · have HND : Hid (RT w A0 S0 R0 ⟨⟨pv, pm⟩, ⟨plo, phi, psl, psh⟩⟩ ⟨⟨tv, tm⟩, ⟨lo4, hi4, sl3, sh3⟩⟩ w5 ∧ mu ⟨⟨tv, tm⟩, ⟨lo4, hi4, sl3, sh3⟩⟩ < mu ⟨⟨v, m⟩, ⟨lo, hi, sl, sh⟩⟩) := Lib.hid (by
                          obtain ⟨w4, d4⟩ := runs_wf HT.out.wf RD.out
                          have t4 := (runs_below HT.out.tr RD.out).2
                          have hne : (⟨⟨tv, tm⟩, ⟨lo4, hi4, sl3, sh3⟩⟩ : Sc) ≠ ⟨⟨v, m⟩, ⟨lo, hi, sl, sh⟩⟩ := fun e => heq (by cases e; exact ⟨rfl, rfl, rfl, rfl, rfl, rfl⟩)
                          exact ⟨⟨w4, t4, (tog_next HT.out.wf RD.out hne).symm.trans HT.out.same, HA.out, HS.out, HR.out, HB.out⟩, d4.resolve_left hne⟩)
                        have HMU := Lib.hid (muR_at HT.out)
                        clear HT RD RA OK4 OK3 E1 E2 E3 E4
                        have hx := HN.out
                        obtain ⟨cN0, cN1, cN2, cN3, cN4, cN5⟩ := c6_of hx
                        have zN := lt_of hx
                        clear hx
                        have hx := HK.out
                        obtain ⟨cK0, cK1, cK2, cK3, cK4, cK5⟩ := c6_of hx
                        have zK := lt_of hx
                        clear hx
                        have hsp := six_split heq
                        clear heq
                        rcases hsp with d1 | ⟨e1, d2⟩ | ⟨e1, e2, d3⟩ | ⟨e1, e2, e3, d4⟩ | ⟨e1, e2, e3, e4, d5⟩ | ⟨e1, e2, e3, e4, e5, d6⟩
                        · have b1 : ((tv : Int) == (v : Int)) = false := beq_of_neN d1
                          clear d1
                          go_wp2_with fail
                          go_roundw
                          case rel => exact ⟨_, HND.out.1⟩
                          case measure => rw [muR_at HND.out.1, HMU.out]; exact HND.out.2
                        · have b1 : ((tv : Int) == (v : Int)) = true := beq_of_eqN e1
                          have b2 : ((tm : Int) == (m : Int)) = false := beq_of_neN d2
                          clear e1 d2
                          go_wp2_with fail
                          go_roundw
                          case rel => exact ⟨_, HND.out.1⟩
                          case measure => rw [muR_at HND.out.1, HMU.out]; exact HND.out.2
                        · have b1 : ((tv : Int) == (v : Int)) = true := beq_of_eqN e1
                          have b2 : ((tm : Int) == (m : Int)) = true := beq_of_eqN e2
                          have b3 : ((lo4 : Int) == (lo : Int)) = false := beq_of_neN d3
                          clear e1 e2 d3
                          go_wp2_with fail
                          go_roundw
                          case rel => exact ⟨_, HND.out.1⟩
                          case measure => rw [muR_at HND.out.1, HMU.out]; exact HND.out.2
                        · have b1 : ((tv : Int) == (v : Int)) = true := beq_of_eqN e1
                          have b2 : ((tm : Int) == (m : Int)) = true := beq_of_eqN e2
                          have b3 : ((lo4 : Int) == (lo : Int)) = true := beq_of_eqN e3
                          have b4 : ((hi4 : Int) == (hi : Int)) = false := beq_of_neN d4
                          clear e1 e2 e3 d4
                          go_wp2_with fail
                          go_roundw
                          case rel => exact ⟨_, HND.out.1⟩
                          case measure => rw [muR_at HND.out.1, HMU.out]; exact HND.out.2
                        · have b1 : ((tv : Int) == (v : Int)) = true := beq_of_eqN e1
                          have b2 : ((tm : Int) == (m : Int)) = true := beq_of_eqN e2
                          have b3 : ((lo4 : Int) == (lo : Int)) = true := beq_of_eqN e3
                          have b4 : ((hi4 : Int) == (hi : Int)) = true := beq_of_eqN e4
                          have b5 : ((sl3 : Int) == (sl : Int)) = false := beq_of_neNI d5
                          clear e1 e2 e3 e4 d5
                          go_wp2_with fail
                          go_roundw
                          case rel => exact ⟨_, HND.out.1⟩
                          case measure => rw [muR_at HND.out.1, HMU.out]; exact HND.out.2
                        · have b1 : ((tv : Int) == (v : Int)) = true := beq_of_eqN e1
                          have b2 : ((tm : Int) == (m : Int)) = true := beq_of_eqN e2
                          have b3 : ((lo4 : Int) == (lo : Int)) = true := beq_of_eqN e3
                          have b4 : ((hi4 : Int) == (hi : Int)) = true := beq_of_eqN e4
                          have b5 : ((sl3 : Int) == (sl : Int)) = true := beq_of_eqNI e5
                          have b6 : ((sh3 : Int) == (sh : Int)) = false := beq_of_neNI d6
                          clear e1 e2 e3 e4 e5 d6
                          go_wp2_with fail
                          go_roundw
                          case rel => exact ⟨_, HND.out.1⟩
                          case measure => rw [muR_at HND.out.1, HMU.out]; exact HND.out.2
                    · have hlt4 : hi4 < lo4 := by omega
                      have NK4 : Hid (round ⟨⟨v, m⟩, ⟨lo, hi, sl, sh⟩⟩ = none) := Lib.hid (by rw [RA.out]; unfold stepR; rw [if_neg (by rw [OK4.out, decide_eq_false k4]; decide)])
                      clear k4
                      have HE : Hid (tog ⟨⟨pv, pm⟩, ⟨plo, phi, psl, psh⟩⟩ = none) := Lib.hid (by rw [← HT.out.same]; exact tog_none (NK4.out))
                      clear HT
                      go_upto_if 109 with (fail)
                      clear zS cS0 cS1 cS2 cS3 fS0 fS1 fS2 fS3
                      have hx := HR.out
                      obtain ⟨cR0, cR1, cR2, cR3, cR4, cR5⟩ := c6_of hx
                      obtain ⟨fR0, fR1, fR2, fR3, fR4, fR5⟩ := f6_of hx
                      have zR := lt_of hx
                      clear hx
                      repeat (first | go_values | go_skip | go_guarded | go_step | go_upon)
                      exact bodyPost_ret (v := .tuple #[.agg #[.int .u64 0, .int .u64 0, .int .u64 0, .int .u64 0, .int .i64 0, .int .i64 0], .bool false]) (by simp [results, Try.results23, go_sem, cR0, cR1, cR2, cR3, cR4, cR5]) rfl ⟨by rw [HO.out, HE.out]; rfl, by
    repeat (first | with_reducible exact HB.out | with_reducible refine But.alloc ?_ _ | (with_reducible refine But.setCell ?_ (.inr ?_) _; rotate_left; (simp only []; omega)))⟩
                · have hlt : sh3 < sl3 := by omega
                  have NK : Hid (okk 2 ⟨⟨tv, tm⟩, ⟨a1, b1, sl, sh⟩⟩ = false) := Lib.hid (by rw [OK3.out]; exact decide_eq_false k3)
                  clear k3
                  have HE : Hid (tog ⟨⟨pv, pm⟩, ⟨plo, phi, psl, psh⟩⟩ = none) := Lib.hid (by rw [← HT.out.same]; exact tog_none (round_n3 (by rw [E1.out.2]; exact decide_eq_true K1.out) (by rw [E1.out.1]; exact E2.out.2) (by rw [E1.out.1, E2.out.1]; exact NK.out)))
                  clear HT
                  go_upto_if 82 with (fail)
                  clear zS cS0 cS1 cS2 cS3 fS0 fS1 fS2 fS3
                  have hx := HR.out
                  obtain ⟨cR0, cR1, cR2, cR3, cR4, cR5⟩ := c6_of hx
                  obtain ⟨fR0, fR1, fR2, fR3, fR4, fR5⟩ := f6_of hx
                  have zR := lt_of hx
                  clear hx
                  repeat (first | go_values | go_skip | go_guarded | go_step | go_upon)
                  exact bodyPost_ret (v := .tuple #[.agg #[.int .u64 0, .int .u64 0, .int .u64 0, .int .u64 0, .int .i64 0, .int .i64 0], .bool false]) (by simp [results, Try.results23, go_sem, cR0, cR1, cR2, cR3, cR4, cR5]) rfl ⟨by rw [HO.out, HE.out]; rfl, by
    repeat (first | with_reducible exact HB.out | with_reducible refine But.alloc ?_ _ | (with_reducible refine But.setCell ?_ (.inr ?_) _; rotate_left; (simp only []; omega)))⟩
        · have hlt : b1 < a1 := by omega
          have NK := Lib.hid k1
          clear k1
          have HE : Hid (tog ⟨⟨pv, pm⟩, ⟨plo, phi, psl, psh⟩⟩ = none) := Lib.hid (by rw [← HT.out.same]; exact tog_none (round_n1 (by rw [E1.out.2]; exact decide_eq_false NK.out)))
          clear HT
          go_upto_if 41 with (fail)
          clear zS cS0 cS1 cS2 cS3 fS0 fS1 fS2 fS3
          have hx := HR.out
          obtain ⟨cR0, cR1, cR2, cR3, cR4, cR5⟩ := c6_of hx
          obtain ⟨fR0, fR1, fR2, fR3, fR4, fR5⟩ := f6_of hx
          have zR := lt_of hx
          clear hx
          repeat (first | go_values | go_skip | go_guarded | go_step | go_upon)
          exact bodyPost_ret (v := .tuple #[.agg #[.int .u64 0, .int .u64 0, .int .u64 0, .int .u64 0, .int .i64 0, .int .i64 0], .bool false]) (by simp [results, Try.results23, go_sem, cR0, cR1, cR2, cR3, cR4, cR5]) rfl ⟨by rw [HO.out, HE.out]; rfl, by
    repeat (first | with_reducible exact HB.out | with_reducible refine But.alloc ?_ _ | (with_reducible refine But.setCell ?_ (.inr ?_) _; rotate_left; (simp only []; omega)))⟩
end Go.Proofs.Ytmbmmcippglfoaa.M
