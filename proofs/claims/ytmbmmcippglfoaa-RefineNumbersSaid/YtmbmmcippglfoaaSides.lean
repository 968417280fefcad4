/-
  refine.pair.sides: the iterator over both sides.
-/
import Derived.Test.YtmbmmcippglfoaaOppo
import Derived.Test.YtmbmmcippglfoaaTogether
namespace Go.Proofs.Ytmbmmcippglfoaa.M
open Go.RowKit Go.Shelf
set_option linter.unusedVariables false
set_option linter.unusedSectionVars false
set_option linter.unusedSimpArgs false

attribute [local go_sem] Oper.semAt_some
def pv (a b : Sc) : Value := .agg #[.int .u64 a.t.v, .int .u64 a.t.m, .int .u64 a.s.lo, .int .u64 a.s.hi, .int .i64 a.s.sl, .int .i64 a.s.sh, .int .u64 b.t.v, .int .u64 b.t.m, .int .u64 b.s.lo, .int .u64 b.s.hi, .int .i64 b.s.sl, .int .i64 b.s.sh]
def pcells (a b : Sc) : Array Value := #[.int .u64 a.t.v, .int .u64 a.t.m, .int .u64 a.s.lo, .int .u64 a.s.hi, .int .i64 a.s.sl, .int .i64 a.s.sh, .int .u64 b.t.v, .int .u64 b.t.m, .int .u64 b.s.lo, .int .u64 b.s.hi, .int .i64 b.s.sl, .int .i64 b.s.sh]
set_option maxRecDepth 100000 in
set_option maxHeartbeats 4000000 in
theorem turned_c (v m lo hi xv xm xlo xhi : Nat) (sl sh xsl xsh : Int) (w : World) : Calls Try.prog 47 #[.agg #[.int .u64 v, .int .u64 m, .int .u64 lo, .int .u64 hi, .int .i64 sl, .int .i64 sh, .int .u64 xv, .int .u64 xm, .int .u64 xlo, .int .u64 xhi, .int .i64 xsl, .int .i64 xsh]] w fun e w' => e = .returned (.agg #[.int .u64 xv, .int .u64 xm, .int .u64 xlo, .int .u64 xhi, .int .i64 xsl, .int .i64 xsh, .int .u64 v, .int .u64 m, .int .u64 lo, .int .u64 hi, .int .i64 sl, .int .i64 sh]) ∧ But [] w w' := by
  go_enter Try.func47, Try.ntmps47
  go_wp2
  exact bodyPost_ret (v := .agg #[.int .u64 xv, .int .u64 xm, .int .u64 xlo, .int .u64 xhi, .int .i64 xsl, .int .i64 xsh, .int .u64 v, .int .u64 m, .int .u64 lo, .int .u64 hi, .int .i64 sl, .int .i64 sh]) (by simp [results, Try.results47, go_sem]) rfl ⟨rfl, by repeat (first | with_reducible exact But.refl _ _ | with_reducible refine But.alloc ?_ _)⟩
set_option maxRecDepth 100000 in
set_option maxHeartbeats 4000000 in
theorem sides_c (v m lo hi xv xm xlo xhi : Nat) (sl sh xsl xsh : Int) (w : World) : Calls Try.prog 26 #[.agg #[.int .u64 v, .int .u64 m, .int .u64 lo, .int .u64 hi, .int .i64 sl, .int .i64 sh, .int .u64 xv, .int .u64 xm, .int .u64 xlo, .int .u64 xhi, .int .i64 xsl, .int .i64 xsh]] w fun e w' => ∃ q, e = .returned (.func (.func 46) #[] #[.pointer (some ⟨q, 0, none⟩)]) ∧ w'.heap[q]? = some (.cells #[.int .u64 v, .int .u64 m, .int .u64 lo, .int .u64 hi, .int .i64 sl, .int .i64 sh, .int .u64 xv, .int .u64 xm, .int .u64 xlo, .int .u64 xhi, .int .i64 xsl, .int .i64 xsh] 54) ∧ w.heap.size ≤ q ∧ But [] w w' := by
  go_enter Try.func26, Try.ntmps26
  go_wp2
  go_ret
  exact ⟨_, rfl, al_at _ _, Nat.le_refl _, (But.refl _ _).alloc _⟩
def encS (a b : Sc) : Nat → Array Value
  | 0 => #[.int .i64 0, pv a b]
  | _ => #[.int .i64 1, pv b a]
def Any2 (i : Nat) (w : World) : Prop := i < 2
def All2 (xs : List Nat) : Prop := xs = List.range 2
def Pre2 (xs : List Nat) : Prop := ∃ k, 0 < k ∧ k ≤ 2 ∧ xs = List.range k
def After2 (ok : Nat → Prop) (J Jx : List Nat → World → Prop) (W : World) (pre : List Nat) (bo : Bool) (W' : World) : Prop := if bo = true then J pre W' ∧ KeepIn ok W W' else Jx pre W'
set_option maxRecDepth 100000 in
set_option maxHeartbeats 4000000 in
theorem sides1_in (n : Nat) (hn : 2 ≤ n) (l q : Nat) (v m lo hi xv xm xlo xhi : Nat) (sl sh xsl xsh : Int) (ok : Nat → Prop) (J Jx : List Nat → World → Prop) (W : World) (hJ : Abides W.heap.size J)
    (hY : ∀ pre x W1, J pre W1 → Any2 x W1 → pre.length < 2 → YieldAt Fence.wide (n - 1) Try.prog l (encS ⟨⟨v, m⟩, ⟨lo, hi, sl, sh⟩⟩ ⟨⟨xv, xm⟩, ⟨xlo, xhi, xsl, xsh⟩⟩ x) W1 fun e W' =>
      (e = .returned (.bool true) ∧ J (pre ++ [x]) W' ∧ KeepIn ok W1 W') ∨ (e = .returned (.bool false) ∧ Jx (pre ++ [x]) W'))
    (hq : W.heap[q]? = some (.cells #[.int .u64 v, .int .u64 m, .int .u64 lo, .int .u64 hi, .int .i64 sl, .int .i64 sh, .int .u64 xv, .int .u64 xm, .int .u64 xlo, .int .u64 xhi, .int .i64 xsl, .int .i64 xsh] 54)) (okq : ok q) (h0 : J [] W) :
    CallsIn Fence.wide n Try.prog 46 #[.func (.yield l) #[] #[], .pointer (some ⟨q, 0, none⟩)] W (SeqPost All2 Pre2 NoT J Jx) := by
  have cq0 : W.cell? ⟨q, 0, none⟩ = some (.int .u64 v) := cl_of hq 0
  have cq1 : W.cell? ⟨q, 1, none⟩ = some (.int .u64 m) := cl_of hq 1
  have cq2 : W.cell? ⟨q, 2, none⟩ = some (.int .u64 lo) := cl_of hq 2
  have cq3 : W.cell? ⟨q, 3, none⟩ = some (.int .u64 hi) := cl_of hq 3
  have cq4 : W.cell? ⟨q, 4, none⟩ = some (.int .i64 sl) := cl_of hq 4
  have cq5 : W.cell? ⟨q, 5, none⟩ = some (.int .i64 sh) := cl_of hq 5
  have cq6 : W.cell? ⟨q, 6, none⟩ = some (.int .u64 xv) := cl_of hq 6
  have cq7 : W.cell? ⟨q, 7, none⟩ = some (.int .u64 xm) := cl_of hq 7
  have cq8 : W.cell? ⟨q, 8, none⟩ = some (.int .u64 xlo) := cl_of hq 8
  have cq9 : W.cell? ⟨q, 9, none⟩ = some (.int .u64 xhi) := cl_of hq 9
  have cq10 : W.cell? ⟨q, 10, none⟩ = some (.int .i64 xsl) := cl_of hq 10
  have cq11 : W.cell? ⟨q, 11, none⟩ = some (.int .i64 xsh) := cl_of hq 11
  have zq := lt_of hq
  have HQ := Lib.hid hq
  have HY := Lib.hid hY
  have HJ := Lib.hid hJ
  have OKQ := Lib.hid okq
  have H0 := Lib.hid h0
  have hyy : YieldAt Fence.wide (n - 1) Try.prog l (encS ⟨⟨v, m⟩, ⟨lo, hi, sl, sh⟩⟩ ⟨⟨xv, xm⟩, ⟨xlo, xhi, xsl, xsh⟩⟩ 0) W fun e W' => ∃ bo, e = .returned (.bool bo) ∧ After2 ok J Jx W ([] ++ [0]) bo W' := by
    refine YieldAt.mono (HY.out [] 0 W H0.out (by unfold Any2; omega) (by simp)) ?_
    rintro e W' (⟨he, h⟩ | ⟨he, h⟩)
    · exact ⟨true, he, by unfold After2; rw [if_pos rfl]; exact h⟩
    · exact ⟨false, he, by unfold After2; rw [if_neg (by decide)]; exact h⟩
  obtain ⟨fn, tmps, assign, body, hy, hR⟩ := hyy
  have HRR := Lib.hid hR
  clear hR
  simp only [encS, pv] at hy
  clear hq hY hJ okq h0
  refine callsIn_of_wp Try.func46 rfl trivial ?_ rfl
  simp only [Try.ntmps46, List.size_toArray, List.length_cons, List.length_nil, Nat.reduceAdd, Nat.reduceSub, Array.replicate_succ, Array.replicate_zero, List.push_toArray, List.append_toArray, List.nil_append, List.cons_append]
  gi_wp2
  refine ⟨fun _ => by omega, ?_⟩
  refine HRR.out.mono ?_
  rintro e w8 ⟨bo, rfl, hbo⟩
  have HBO := Lib.hid hbo
  clear hbo
  cases bo with
  | false =>
    have HJ8 : Hid (Jx ([] ++ [0]) w8) := Lib.hid (by have h := HBO.out; unfold After2 at h; rwa [if_neg (by decide)] at h)
    clear HBO HRR hy
    gi_wp2
    refine ⟨trivial, (by assumption : ∀ (a : Act) (w : World), wpListIn _ _ _ _ _ _ a w → _) _ _ ?_⟩
    gi_wp2
    refine ⟨(fun f hf => by cases hf), (by assumption : ∀ (a : Act) (w : World), wpListIn _ _ _ _ _ _ a w → _) _ _ ?_⟩
    gi_wp2
    refine bodyPost_ret (results_none rfl _ _ _) rfl ?_
    exact .inl ⟨⟨_, rfl⟩, .inr ⟨[] ++ [0], ⟨1, by omega, by omega, by decide⟩, HJ8.out⟩⟩
  | true =>
    have HJ8 : Hid (J ([] ++ [0]) w8 ∧ KeepIn ok W w8) := Lib.hid (by have h := HBO.out; unfold After2 at h; rwa [if_pos rfl] at h)
    clear HBO HRR hy
    have hq8 : w8.heap[q]? = some (.cells #[.int .u64 v, .int .u64 m, .int .u64 lo, .int .u64 hi, .int .i64 sl, .int .i64 sh, .int .u64 xv, .int .u64 xm, .int .u64 xlo, .int .u64 xhi, .int .i64 xsl, .int .i64 xsh] 54) := HJ8.out.2.heap OKQ.out HQ.out
    clear cq0 cq1 cq2 cq3 cq4 cq5 cq6 cq7 cq8 cq9 cq10 cq11 zq
    have cq0 : w8.cell? ⟨q, 0, none⟩ = some (.int .u64 v) := cl_of hq8 0
    have cq1 : w8.cell? ⟨q, 1, none⟩ = some (.int .u64 m) := cl_of hq8 1
    have cq2 : w8.cell? ⟨q, 2, none⟩ = some (.int .u64 lo) := cl_of hq8 2
    have cq3 : w8.cell? ⟨q, 3, none⟩ = some (.int .u64 hi) := cl_of hq8 3
    have cq4 : w8.cell? ⟨q, 4, none⟩ = some (.int .i64 sl) := cl_of hq8 4
    have cq5 : w8.cell? ⟨q, 5, none⟩ = some (.int .i64 sh) := cl_of hq8 5
    have cq6 : w8.cell? ⟨q, 6, none⟩ = some (.int .u64 xv) := cl_of hq8 6
    have cq7 : w8.cell? ⟨q, 7, none⟩ = some (.int .u64 xm) := cl_of hq8 7
    have cq8 : w8.cell? ⟨q, 8, none⟩ = some (.int .u64 xlo) := cl_of hq8 8
    have cq9 : w8.cell? ⟨q, 9, none⟩ = some (.int .u64 xhi) := cl_of hq8 9
    have cq10 : w8.cell? ⟨q, 10, none⟩ = some (.int .i64 xsl) := cl_of hq8 10
    have cq11 : w8.cell? ⟨q, 11, none⟩ = some (.int .i64 xsh) := cl_of hq8 11
    have zq := lt_of hq8
    clear hq8
    gi_wp2
    refine ⟨trivial, fun _ => by omega, ?_⟩
    refine (callsIn_wide.2 (turned_c _ _ _ _ _ _ _ _ _ _ _ _ _)).mono ?_
    rintro e w9 ⟨rfl, hb9⟩
    have HJ9 := Lib.hid (HJ.out.new _ _ _ HJ8.out.1 hb9)
    have HB9 := Lib.hid hb9
    clear hb9 cq0 cq1 cq2 cq3 cq4 cq5 cq6 cq7 cq8 cq9 cq10 cq11 zq
    have hyy : YieldAt Fence.wide (n - 1) Try.prog l (encS ⟨⟨v, m⟩, ⟨lo, hi, sl, sh⟩⟩ ⟨⟨xv, xm⟩, ⟨xlo, xhi, xsl, xsh⟩⟩ 1) w9 fun e W' => ∃ bo, e = .returned (.bool bo) ∧ After2 ok J Jx w9 (([] ++ [0]) ++ [1]) bo W' := by
      refine YieldAt.mono (HY.out ([] ++ [0]) 1 w9 HJ9.out (by unfold Any2; omega) (by simp)) ?_
      rintro e W' (⟨he, h⟩ | ⟨he, h⟩)
      · exact ⟨true, he, by unfold After2; rw [if_pos rfl]; exact h⟩
      · exact ⟨false, he, by unfold After2; rw [if_neg (by decide)]; exact h⟩
    obtain ⟨fn, tmps, assign, body, hy, hR⟩ := hyy
    have HRR := Lib.hid hR
    clear hR
    simp only [encS, pv] at hy
    gi_wp2
    refine ⟨fun _ => by omega, ?_⟩
    refine HRR.out.mono ?_
    rintro e w10 ⟨bo, rfl, hbo⟩
    have HBO := Lib.hid hbo
    clear hbo
    cases bo with
    | false =>
      have HJx : Hid (Jx (([] ++ [0]) ++ [1]) w10) := Lib.hid (by have h := HBO.out; unfold After2 at h; rwa [if_neg (by decide)] at h)
      clear HBO HRR hy
      gi_wp2
      refine bodyPost_ret (results_none rfl _ _ _) rfl ?_
      exact .inl ⟨⟨_, rfl⟩, .inr ⟨([] ++ [0]) ++ [1], ⟨2, by omega, by omega, by decide⟩, HJx.out⟩⟩
    | true =>
      have HJy : Hid (J (([] ++ [0]) ++ [1]) w10) := Lib.hid (by have h := HBO.out; unfold After2 at h; rw [if_pos rfl] at h; exact h.1)
      clear HBO HRR hy
      gi_wp2
      refine bodyPost_ret (results_none rfl _ _ _) rfl ?_
      exact .inl ⟨⟨_, rfl⟩, .inl ⟨([] ++ [0]) ++ [1], by unfold All2; decide, HJy.out⟩⟩
/-- The iterator's contract. -/
theorem sides1_seq (n : Nat) (hn : 2 ≤ n) (q : Nat) (v m lo hi xv xm xlo xhi : Nat) (sl sh xsl xsh : Int) (ok : Nat → Prop) (w : World) (hq : w.heap[q]? = some (.cells #[.int .u64 v, .int .u64 m, .int .u64 lo, .int .u64 hi, .int .i64 sl, .int .i64 sh, .int .u64 xv, .int .u64 xm, .int .u64 xlo, .int .u64 xhi, .int .i64 xsl, .int .i64 xsh] 54)) (okq : ok q) :
    SeqB Fence.wide n Try.prog 46 #[.pointer (some ⟨q, 0, none⟩)] (encS ⟨⟨v, m⟩, ⟨lo, hi, sl, sh⟩⟩ ⟨⟨xv, xm⟩, ⟨xlo, xhi, xsl, xsh⟩⟩) Any2 (KeepIn ok) All2 Pre2 NoT 2 w := fun l J Jx W hW hJ hJx hY h0 =>
  sides1_in n hn l q _ _ _ _ _ _ _ _ _ _ _ _ ok J Jx W hJ hY (hW.heap hq (by simp)) okq h0
end Go.Proofs.Ytmbmmcippglfoaa.M
