/-
  drop: a range over all but one thing. The iterator's contract. (After chapter 15's Room.)
-/
import Derived.RangeFuncNested
import Derived.RangeFuncBound
import Derived.RangeFuncCalls
import Derived.RangeFuncLeaves
import Derived.RangeFuncFrom
import Derived.Shelf.Abstract
import Derived.Shelf.RegionOpen
import Derived.WalkKit
import Derived.OwnWalkIn
import Derived.TacticsInMore
import Derived.LoopNIn
import Derived.LoopIn
import Derived.Test.YtdobileefcidjaaRow
import Derived.Test.YtdobileefcidjaaFlatSp
namespace Go.Proofs.Ytdobileefcidjaa.M
open Go.RowKit Go.Shelf
set_option linter.unusedVariables false
set_option linter.unusedSectionVars false
set_option linter.unusedSimpArgs false
attribute [local go_sem] Oper.semAt_some
abbrev Sl := Option Addr × Nat × Nat
def enc (x : Sl) : Value := .slice x.1 x.2.1 x.2.2
/-- The things ahead of a place, but for one. -/
def upTo (vals : List Sl) (at' j : Nat) : List Sl := (vals.take j).eraseIdx at'
theorem take_len {α : Type} {vals : List α} {j : Nat} (h : j < vals.length) : (vals.take j).length = j := by rw [List.length_take]; omega
theorem take_more {α : Type} {vals : List α} {j : Nat} (h : j < vals.length) : vals.take (j + 1) = vals.take j ++ [vals[j]] := by
  rw [List.take_add_one, List.getElem?_eq_getElem h, Option.toList_some]
theorem upTo_same {vals : List Sl} {j : Nat} (h : j < vals.length) : upTo vals j (j + 1) = upTo vals j j := by
  have e := take_len h
  unfold upTo
  rw [List.eraseIdx_of_length_le (l := vals.take j) (by omega), take_more h, List.eraseIdx_append_of_length_le (by omega), e, Nat.sub_self]
  exact List.append_nil _
theorem upTo_more {vals : List Sl} {at' j : Nat} (h : j < vals.length) (hne : j ≠ at') : upTo vals at' (j + 1) = upTo vals at' j ++ [vals[j]] := by
  have e := take_len h
  unfold upTo
  rw [take_more h]
  by_cases hlt : at' < j
  · rw [List.eraseIdx_append_of_lt_length (by omega)]
  · rw [List.eraseIdx_of_length_le (l := vals.take j) (by omega), List.eraseIdx_of_length_le (by rw [List.length_append, e, List.length_singleton]; omega)]
theorem upTo_prefix (vals : List Sl) (at' j : Nat) : upTo vals at' j <+: vals.eraseIdx at' := by
  unfold upTo
  conv => rhs; rw [← List.take_append_drop j vals]
  by_cases h : at' < (vals.take j).length
  · rw [List.eraseIdx_append_of_lt_length h]
    exact List.prefix_append _ _
  · rw [List.eraseIdx_append_of_length_le (by omega), List.eraseIdx_of_length_le (by omega)]
    exact List.prefix_append _ _
theorem upTo_all (vals : List Sl) (at' : Nat) : upTo vals at' vals.length = vals.eraseIdx at' := by unfold upTo; rw [List.take_length]
/-- What a round keeps: all old memory, and one box. -/
def KpA (n0 Ba : Nat) (A B : World) : Prop := Below n0 A B ∧ B.heap[Ba]? = A.heap[Ba]?
theorem KpA.trans {n0 Ba : Nat} {A B C : World} (h : KpA n0 Ba A B) (k : KpA n0 Ba B C) : KpA n0 Ba A C := ⟨h.1.trans k.1, k.2.trans h.2⟩
set_option maxRecDepth 100000 in
set_option maxHeartbeats 1000000 in
theorem left1_in (F : Fence) (n : Nat) (h6 : F.fn 64) (hro : F.round = none) (hn : 1 ≤ n) (l Bn Ba Q n0 at' g o c : Nat) (vals : List Sl) (J Jx : List Sl → World → Prop)
    (hY : ∀ pre x W, J pre W → pre.length < (vals.eraseIdx at').length → YieldAt F (n - 1) Try.prog l #[.slice x.1 x.2.1 x.2.2] W fun e W' =>
      (e = .returned (.bool true) ∧ J (pre ++ [x]) W' ∧ KpA n0 Ba W W') ∨ (e = .returned (.bool false) ∧ Jx (pre ++ [x]) W'))
    (W : World) (hBn : W.cell? ⟨Bn, 0, none⟩ = some (.pointer (some ⟨Q, 0, none⟩))) (hBa : W.heap[Ba]? = some (.cells #[.int .i64 at'] 3)) (hgn : g < n0) (hvl : vals.length ≤ 1000000) (hc : vals.length ≤ c)
    (hR : W.cell? ⟨Q, 0, none⟩ = some (.slice (some ⟨g, o, none⟩) vals.length c)) (hL : ∀ j (x : Sl), vals[j]? = some x → W.cell? ⟨g, o + j, none⟩ = some (.slice x.1 x.2.1 x.2.2)) (h0 : J [] W) :
    CallsIn F n Try.prog 64 #[.func (.yield l) #[] #[], .pointer (some ⟨Bn, 0, none⟩), .pointer (some ⟨Ba, 0, none⟩)] W fun e W' => (∃ v, e = .returned v) ∧
      ((∃ ys, ys = vals.eraseIdx at' ∧ J ys W') ∨ (∃ pre, pre <+: vals.eraseIdx at' ∧ Jx pre W')) := by
  refine callsIn_of_wp Try.func64 rfl h6 ?_ hro
  simp only [Try.ntmps64, List.size_toArray, List.length_cons, List.length_nil, Nat.reduceAdd, Nat.reduceSub, Array.replicate_succ, Array.replicate_zero, List.push_toArray, List.append_toArray, List.nil_append, List.cons_append]
  gi_wp2
  gi_loopw [11] (fun i wr => ∃ j : Nat, j ≤ vals.length ∧ i = .int .i64 j ∧ J (upTo vals at' j) wr ∧ KpA n0 Ba W wr) (fun i _ => vals.length - (intOf i).toNat)
  case atStart =>
    exact ⟨0, Nat.zero_le _, rfl, by simpa [upTo] using h0, Below.refl _ _, rfl⟩
  case round =>
    obtain ⟨j, hj, rfl, hJ, hb⟩ := hrel
    have HJ := Lib.hid hJ
    have HB := Lib.hid hb
    clear hJ hb
    by_cases hlt : j < vals.length
    · have hx : vals[j]? = some vals[j] := List.getElem?_eq_getElem hlt
      have c1 : wr.cell? ⟨g, o + j, none⟩ = some (.slice vals[j].1 vals[j].2.1 vals[j].2.2) := (HB.out.1.cell (p := ⟨g, o + j, none⟩) hgn).trans (hL j _ hx)
      have c2 : wr.cell? ⟨Ba, 0, none⟩ = some (.int .i64 at') := by
        unfold World.cell?
        rw [HB.out.2, hBa]
        rfl
      have hj0 : (0 : Int) ≤ j := by omega
      have hj1 : (j : Int) < vals.length := by omega
      have hj2 : (j : Int) < c := by omega
      by_cases hat : j = at'
      · subst hat
        have d1 : ((j : Int) != (j : Int)) = false := by simp
        have HU := Lib.hid (upTo_same hlt)
        clear hx
        gi_wp2
        refine ⟨fun _ h => (by cases h), ?_⟩
        gi_wp2
        go_roundw
        case rel => exact ⟨j + 1, by omega, by go_num, by rw [HU.out]; exact HJ.out, HB.out⟩
        case measure => simp [intOf]; omega
      · have hat' : (j : Int) ≠ (at' : Int) := by omega
        have d1 : ((j : Int) != (at' : Int)) = true := by simpa using hat'
        have HU := Lib.hid (upTo_more hlt hat)
        have hlen : (upTo vals at' j).length < (vals.eraseIdx at').length := by
          have h1 := (upTo_prefix vals at' (j + 1)).length_le
          rw [HU.out, List.length_append, List.length_singleton] at h1
          omega
        obtain ⟨fn, tmps, assign, body, hy, hR2⟩ := hY (upTo vals at' j) vals[j] wr HJ.out hlen
        have HP := Lib.hid (upTo_prefix vals at' (j + 1))
        clear hx hat hat' hlen
        gi_wp2
        refine hR2.mono ?_
        rintro e W3 (⟨rfl, hJ3, hk3⟩ | ⟨rfl, hJx3⟩)
        · gi_wp2
          go_roundw
          case rel => exact ⟨j + 1, by omega, by go_num, by rw [HU.out]; exact hJ3, HB.out.trans hk3⟩
          case measure => simp [intOf]; omega
        · gi_wp2
          exact bodyPost_ret (results_none rfl _ _ _) rfl ⟨⟨_, rfl⟩, .inr ⟨_, by rw [← HU.out]; exact HP.out, hJx3⟩⟩
    · obtain rfl : j = vals.length := by omega
      have HU := Lib.hid (upTo_all vals at')
      gi_wp2
      go_end0
      exact ⟨⟨_, rfl⟩, .inl ⟨_, HU.out, HJ.out⟩⟩
end Go.Proofs.Ytdobileefcidjaa.M
