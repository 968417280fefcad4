/-
  kinds.Spec at any make.
-/
import Derived.Test.YtpoinhfkgnkedaaGA
import Derived.Test.YtpoinhfkgnkedaaMakes
import Derived.Test.YtpoinhfkgnkedaaSpecSp
import Derived.Test.YtpoinhfkgnkedaaGM
import Derived.Deep.DeepCutAuto
import Derived.Deep.CutBlock
namespace Go.Proofs.Ytpoinhfkgnkedaa.M
open Go.RowKit
set_option linter.unusedVariables false
set_option linter.unusedSectionVars false
set_option linter.unusedSimpArgs false
theorem hasB (lo hi n : Int) (b : Bool) (w : World) (h : inB lo hi n = b) :
    Calls Try.prog 53 #[.agg #[.int .i64 lo, .int .i64 hi], .int .i64 n] w fun e w' => e = .returned (.bool b) ∧ w.alloc (.cells #[.int .i64 lo, .int .i64 hi] 96) = w' := by
  by_cases h1 : lo ≤ n
  · by_cases h2 : n ≤ hi
    · have hb : b = true := by rw [← h]; simp [inB, h1, h2]
      subst hb
      clear h
      go_enter Try.func53, Try.ntmps53
      go_wp2
      go_ret
      exact ⟨rfl, rfl⟩
    · have hb : b = false := by rw [← h]; simp [inB, h2]
      subst hb
      clear h
      go_enter Try.func53, Try.ntmps53
      go_wp2
      go_ret
      exact ⟨rfl, rfl⟩
  · have hb : b = false := by rw [← h]; simp [inB, h1]
    subst hb
    clear h
    go_enter Try.func53, Try.ntmps53
    go_wp2
    go_ret
    exact ⟨rfl, rfl⟩
def oneTable : Array MapEntry := #[⟨.int .u8 1, .agg #[.int .i64 4, .int .i64 4, .int .i64 1, .int .i64 1024, .int .i64 1, .int .i64 1024], 0⟩, ⟨.int .u8 2, .agg #[.int .i64 1, .int .i64 64, .int .i64 1, .int .i64 1024, .int .i64 1, .int .i64 1024], 1⟩, ⟨.int .u8 3, .agg #[.int .i64 1, .int .i64 64, .int .i64 1, .int .i64 1024, .int .i64 1, .int .i64 1024], 2⟩, ⟨.int .u8 4, .agg #[.int .i64 5, .int .i64 36, .int .i64 1, .int .i64 1024, .int .i64 1, .int .i64 1024], 3⟩, ⟨.int .u8 5, .agg #[.int .i64 0, .int .i64 0, .int .i64 1, .int .i64 1024, .int .i64 1, .int .i64 1024], 4⟩, ⟨.int .u8 6, .agg #[.int .i64 0, .int .i64 0, .int .i64 1, .int .i64 1024, .int .i64 1, .int .i64 1024], 5⟩, ⟨.int .u8 7, .agg #[.int .i64 0, .int .i64 0, .int .i64 0, .int .i64 0, .int .i64 16, .int .i64 16384], 6⟩, ⟨.int .u8 8, .agg #[.int .i64 4, .int .i64 4, .int .i64 8, .int .i64 8, .int .i64 1, .int .i64 64], 7⟩]
/-- What a look-up tells of a kind. -/
def toldOf (k : Int) : Value := match rowB k with
  | some r => .tuple #[.agg #[.int .i64 r.a, .int .i64 r.b, .int .i64 r.c, .int .i64 r.d, .int .i64 r.e, .int .i64 r.f], .bool true]
  | none => .tuple #[.agg #[.int .i64 0, .int .i64 0, .int .i64 0, .int .i64 0, .int .i64 0, .int .i64 0], .bool false]
theorem makes_at (k : Int) (hk : (Lit.int .u8 k).wf = true) (W : World) (b : Nat) (hb : W.heap.size = b) : (Instr.lookup 100 (.map (some b)) (.int .u8 k) true).run Try.prog (W.alloc (.map #[⟨.int .u8 1, .agg #[.int .i64 4, .int .i64 4, .int .i64 1, .int .i64 1024, .int .i64 1, .int .i64 1024], 0⟩, ⟨.int .u8 2, .agg #[.int .i64 1, .int .i64 64, .int .i64 1, .int .i64 1024, .int .i64 1, .int .i64 1024], 1⟩, ⟨.int .u8 3, .agg #[.int .i64 1, .int .i64 64, .int .i64 1, .int .i64 1024, .int .i64 1, .int .i64 1024], 2⟩, ⟨.int .u8 4, .agg #[.int .i64 5, .int .i64 36, .int .i64 1, .int .i64 1024, .int .i64 1, .int .i64 1024], 3⟩, ⟨.int .u8 5, .agg #[.int .i64 0, .int .i64 0, .int .i64 1, .int .i64 1024, .int .i64 1, .int .i64 1024], 4⟩, ⟨.int .u8 6, .agg #[.int .i64 0, .int .i64 0, .int .i64 1, .int .i64 1024, .int .i64 1, .int .i64 1024], 5⟩, ⟨.int .u8 7, .agg #[.int .i64 0, .int .i64 0, .int .i64 0, .int .i64 0, .int .i64 16, .int .i64 16384], 6⟩, ⟨.int .u8 8, .agg #[.int .i64 4, .int .i64 4, .int .i64 8, .int .i64 8, .int .i64 1, .int .i64 64], 7⟩] 8)) = .ok (toldOf k) (W.alloc (.map #[⟨.int .u8 1, .agg #[.int .i64 4, .int .i64 4, .int .i64 1, .int .i64 1024, .int .i64 1, .int .i64 1024], 0⟩, ⟨.int .u8 2, .agg #[.int .i64 1, .int .i64 64, .int .i64 1, .int .i64 1024, .int .i64 1, .int .i64 1024], 1⟩, ⟨.int .u8 3, .agg #[.int .i64 1, .int .i64 64, .int .i64 1, .int .i64 1024, .int .i64 1, .int .i64 1024], 2⟩, ⟨.int .u8 4, .agg #[.int .i64 5, .int .i64 36, .int .i64 1, .int .i64 1024, .int .i64 1, .int .i64 1024], 3⟩, ⟨.int .u8 5, .agg #[.int .i64 0, .int .i64 0, .int .i64 1, .int .i64 1024, .int .i64 1, .int .i64 1024], 4⟩, ⟨.int .u8 6, .agg #[.int .i64 0, .int .i64 0, .int .i64 1, .int .i64 1024, .int .i64 1, .int .i64 1024], 5⟩, ⟨.int .u8 7, .agg #[.int .i64 0, .int .i64 0, .int .i64 0, .int .i64 0, .int .i64 16, .int .i64 16384], 6⟩, ⟨.int .u8 8, .agg #[.int .i64 4, .int .i64 4, .int .i64 8, .int .i64 8, .int .i64 1, .int .i64 64], 7⟩] 8)) := by
  by_cases h : 1 ≤ k ∧ k ≤ 8
  · rcases kinds_of h with rfl | rfl | rfl | rfl | rfl | rfl | rfl | rfl <;>
      exact lit_get (q := .u8) rowK Try.underlying100 (ps := makesPs 8) (by simp [EntsK, makesPs]) (makes_wf _) rfl b hb (by simp [makesPs]) (by simp [makesPs])
  · have e : toldOf k = .tuple #[.agg #[.int .i64 0, .int .i64 0, .int .i64 0, .int .i64 0, .int .i64 0, .int .i64 0], .bool false] := by
      unfold toldOf
      rw [rowB_none h]
    rw [e]
    exact lit_none (q := .u8) rowK Try.underlying100 (ps := makesPs 8) (by simp [EntsK, makesPs]) (makes_wf _) hk b hb (by
      intro p hp
      simp only [makesPs, List.take_succ_cons, List.take_zero, List.mem_cons, List.not_mem_nil, or_false] at hp
      rcases hp with rfl | rfl | rfl | rfl | rfl | rfl | rfl | rfl <;> (simp only; omega)) (fun w => by kernel_rfl)
set_option maxRecDepth 100000 in
set_option maxHeartbeats 4000000 in
theorem spec_with (k key val ent : Int) (r : RowB) (ok b1 b2 b3 : Bool) (w : World) (ht : toldOf k = .tuple #[.agg #[.int .i64 r.a, .int .i64 r.b, .int .i64 r.c, .int .i64 r.d, .int .i64 r.e, .int .i64 r.f], .bool ok]) (hk : (Lit.int .u8 k).wf = true)
    (h1 : inB r.a r.b key = b1) (h2 : inB r.c r.d val = b2) (h3 : inB r.e r.f ent = b3) :
    Calls Try.prog 33 #[.agg #[.int .u8 k, .int .i64 key, .int .i64 val, .int .i64 ent]] w fun e w' => e = .returned (.int .i64 (if ok = true then (if (b1 && b2 && b3) = true then 0 else 2) else 9)) ∧ But [] w w' := by
  obtain ⟨ra, rb, rc, rd, re, rf⟩ := r
  simp only at ht h1 h2 h3
  have hmm := @run_makeMap Try.prog
  have i1 := makes_ins1
  have i2 := makes_ins2
  have i3 := makes_ins3
  have i4 := makes_ins4
  have i5 := makes_ins5
  have i6 := makes_ins6
  have i7 := makes_ins7
  have i8 := makes_ins8
  have ig := makes_at k hk
  rw [ht] at ig
  have H1 := Lib.hid h1
  have H2 := Lib.hid h2
  have H3 := Lib.hid h3
  clear ht hk h1 h2 h3
  go_enter Try.func33, Try.ntmps33
  go_upto_region 3 with fail
  go_cut [6, 7, 51] (fun s t x wx => ∃ q, s = .pointer (some ⟨q, 0, none⟩) ∧ t = .bool ok ∧ x = .bool (!ok) ∧ wx.heap[q]? = some (.cells #[.int .i64 ra, .int .i64 rb, .int .i64 rc, .int .i64 rd, .int .i64 re, .int .i64 rf] 98) ∧ wx.heap[w.heap.size]? = some (.cells #[.int .u8 k, .int .i64 key, .int .i64 val, .int .i64 ent] 24) ∧ But [] w wx)
  case first =>
    go_wp2_with fail
    go_meet
    refine ⟨_, rfl, rfl, rfl, ?_, al_keep (al_keep (al_keep (al_keep (al_keep (al_at _ _) _) _) _) _) _, by repeat (first | exact But.refl _ _ | refine But.alloc ?_ _)⟩
    exact al_eq _ _ _ (by simp only [size_alloc])
  case rest =>
    obtain ⟨q, rfl, rfl, rfl, hq, hm, hb⟩ := hcut
    have c0 : wc.cell? ⟨q, 0, none⟩ = some (.int .i64 ra) := cl_of hq 0
    have c1 : wc.cell? ⟨q, 1, none⟩ = some (.int .i64 rb) := cl_of hq 1
    have c2 : wc.cell? ⟨q, 2, none⟩ = some (.int .i64 rc) := cl_of hq 2
    have c3 : wc.cell? ⟨q, 3, none⟩ = some (.int .i64 rd) := cl_of hq 3
    have c4 : wc.cell? ⟨q, 4, none⟩ = some (.int .i64 re) := cl_of hq 4
    have c5 : wc.cell? ⟨q, 5, none⟩ = some (.int .i64 rf) := cl_of hq 5
    have m1 : wc.cell? ⟨w.heap.size, 1, none⟩ = some (.int .i64 key) := cl_of hm 1
    have m2 : wc.cell? ⟨w.heap.size, 2, none⟩ = some (.int .i64 val) := cl_of hm 2
    have m3 : wc.cell? ⟨w.heap.size, 3, none⟩ = some (.int .i64 ent) := cl_of hm 3
    have HB := Lib.hid hb
    have hql := lt_of hq
    have hml := lt_of hm
    clear hq hm hb
    cases ok with
    | false =>
      go_wp2_with fail
      go_ret
      exact ⟨rfl, HB.out⟩
    | true =>
      go_wp2_with fail
      refine (hasB _ _ _ _ _ H1.out).mono ?_
      rintro e w1 ⟨rfl, rfl⟩
      cases b1 with
      | false =>
        go_wp2_with fail
        go_ret
        exact ⟨rfl, HB.out.alloc _⟩
      | true =>
        go_wp2_with fail
        refine (hasB _ _ _ _ _ H2.out).mono ?_
        rintro e w1 ⟨rfl, rfl⟩
        cases b2 with
        | false =>
          go_wp2_with fail
          go_ret
          exact ⟨rfl, (HB.out.alloc _).alloc _⟩
        | true =>
          go_wp2_with fail
          refine (hasB _ _ _ _ _ H3.out).mono ?_
          rintro e w1 ⟨rfl, rfl⟩
          cases b3 with
          | false =>
            go_wp2_with fail
            go_ret
            exact ⟨rfl, ((HB.out.alloc _).alloc _).alloc _⟩
          | true =>
            go_wp2_with fail
            go_ret
            exact ⟨rfl, ((HB.out.alloc _).alloc _).alloc _⟩
/-- kinds.Spec, at any make. -/
theorem specAny (k key val ent : Int) (w : World) (hk : (Lit.int .u8 k).wf = true) :
    Calls Try.prog 33 #[.agg #[.int .u8 k, .int .i64 key, .int .i64 val, .int .i64 ent]] w fun e w' => e = .returned (.int .i64 (specE k key val ent)) ∧ But [] w w' := by
  cases hr : rowB k with
  | none =>
    refine (spec_with k key val ent ⟨0, 0, 0, 0, 0, 0⟩ false _ _ _ w (by unfold toldOf; rw [hr]) hk rfl rfl rfl).mono ?_
    rintro e w' ⟨rfl, hb⟩
    exact ⟨by simp [specE, hr], hb⟩
  | some r =>
    refine (spec_with k key val ent r true _ _ _ w (by unfold toldOf; rw [hr]) hk rfl rfl rfl).mono ?_
    rintro e w' ⟨rfl, hb⟩
    exact ⟨by simp [specE, hr, rowE], hb⟩
end Go.Proofs.Ytpoinhfkgnkedaa.M
