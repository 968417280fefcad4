/-
  Room: a range over a ring's links. (The iterator's contract after GgListAtTheDump.lean.)
-/
import Derived.RangeFuncNested
import Derived.RangeFuncBound
import Derived.RangeFuncCalls
import Derived.RangeFuncLeaves
import Derived.RangeFuncFrom
import Derived.Shelf.Abstract
import Derived.Shelf.RegionOpen
import Derived.WalkKit
import Derived.OwnWalkIn
import Derived.TacticsInMore
import Derived.LoopNIn
import Derived.LoopIn
import Derived.Test.YtlajffbjkgedhaaRingTake
namespace Go.Proofs.Ytlajffbjkgedhaa.M
open Go.RowKit Go.Shelf
set_option linter.unusedVariables false
set_option linter.unusedSectionVars false
set_option linter.unusedSimpArgs false
attribute [local go_sem] Oper.semAt_some
abbrev Sl := Option Addr × Nat × Nat
def enc (x : Sl) : Value := .slice x.1 x.2.1 x.2.2
/-- From p on there lie links, in blocks below n0: each holds a slice. -/
def IsList (n0 : Nat) (W : World) : Option Addr → List Sl → Prop
  | p, [] => p = none
  | p, x :: xs => ∃ (b : Nat) (q : Option Addr), p = some ⟨b, 0, none⟩ ∧ b < n0 ∧ W.cell? ⟨b, 0, none⟩ = some (.slice x.1 x.2.1 x.2.2) ∧ W.cell? ⟨b, 1, none⟩ = some (.pointer q) ∧ IsList n0 W q xs
theorem IsList.below {n0 : Nat} {A B : World} (h : Below n0 A B) : ∀ {p : Option Addr} {xs : List Sl}, IsList n0 A p xs → IsList n0 B p xs
  | _, [], hl => hl
  | _, _ :: _, ⟨b, q, hp, hb, hv, hq, hr⟩ => ⟨b, q, hp, hb, (h.cell (p := ⟨b, 0, none⟩) hb).trans hv, (h.cell (p := ⟨b, 1, none⟩) hb).trans hq, IsList.below h hr⟩
theorem IsList.unique {n0 : Nat} {W : World} : ∀ {p : Option Addr} {xs ys : List Sl}, IsList n0 W p xs → IsList n0 W p ys → xs = ys
  | _, [], [], _, _ => rfl
  | _, [], _ :: _, h, ⟨_, _, hp, _⟩ => by rw [h] at hp; cases hp
  | _, _ :: _, [], ⟨_, _, hp, _⟩, h => by rw [h] at hp; cases hp
  | _, (a, m, c) :: xs, (a', m', c') :: ys, ⟨b, q, hp, _, hv, hq, hr⟩, ⟨b', q', hp', _, hv', hq', hr'⟩ => by
    rw [hp] at hp'; cases hp'
    rw [hv] at hv'; cases hv'
    rw [hq] at hq'; cases hq'
    rw [IsList.unique hr hr']
open Classical in
noncomputable def left (n0 : Nat) (W : World) (v : Value) : Nat :=
  if h : ∃ r : Option Addr × List Sl, v = .pointer r.1 ∧ IsList n0 W r.1 r.2 then (Classical.choose h).2.length else 0
theorem left_eq {n0 : Nat} {W : World} {q : Option Addr} {xs : List Sl} (h : IsList n0 W q xs) : left n0 W (.pointer q) = xs.length := by
  have hex : ∃ r : Option Addr × List Sl, Value.pointer q = .pointer r.1 ∧ IsList n0 W r.1 r.2 := ⟨(q, xs), rfl, h⟩
  unfold left
  rw [dif_pos hex]
  obtain ⟨e, hl⟩ := Classical.choose_spec hex
  have e' : q = (Classical.choose hex).1 := by simpa using e
  rw [← e'] at hl
  rw [IsList.unique hl h]
set_option maxRecDepth 100000 in
set_option maxHeartbeats 1000000 in
theorem all1_in (F : Fence) (n : Nat) (h6 : F.fn 37) (hro : F.round = none) (hn : 1 ≤ n) (l Bn R n0 : Nat) (p0 : Option Addr) (xs : List Sl) (J Jx : List Sl → World → Prop)
    (hY : ∀ pre x W, J pre W → pre.length < xs.length → YieldAt F (n - 1) Try.prog l #[.slice x.1 x.2.1 x.2.2] W fun e W' =>
      (e = .returned (.bool true) ∧ J (pre ++ [x]) W' ∧ Below n0 W W') ∨ (e = .returned (.bool false) ∧ Jx (pre ++ [x]) W'))
    (W : World) (hBn : W.cell? ⟨Bn, 0, none⟩ = some (.pointer (some ⟨R, 0, none⟩))) (hR : W.cell? ⟨R, 0, none⟩ = some (.pointer p0)) (hL : IsList n0 W p0 xs) (h0 : J [] W) :
    CallsIn F n Try.prog 37 #[.func (.yield l) #[] #[], .pointer (some ⟨Bn, 0, none⟩)] W fun e W' => (∃ v, e = .returned v) ∧
      ((∃ ys, ys = xs ∧ J ys W') ∨ (∃ pre, pre <+: xs ∧ Jx pre W')) := by
  refine callsIn_of_wp Try.func37 rfl h6 ?_ hro
  simp only [Try.ntmps37, List.size_toArray, List.length_cons, List.length_nil, Nat.reduceAdd, Nat.reduceSub, Array.replicate_succ, Array.replicate_zero, List.push_toArray, List.append_toArray, List.nil_append, List.cons_append]
  gi_wp2
  gi_loopw [3] (fun p wr => ∃ (pre rest : List Sl) (q : Option Addr), p = .pointer q ∧ xs = pre ++ rest ∧ IsList n0 wr q rest ∧ J pre wr)
    (fun p wr => left n0 wr p)
  case atStart =>
    exact ⟨[], xs, p0, rfl, rfl, hL, h0⟩
  case round =>
    obtain ⟨pre, rest, q, rfl, hx, hl, hJs⟩ := hrel
    cases rest with
    | nil =>
      obtain rfl : q = none := hl
      gi_wp2
      refine ⟨fun _ h => (by cases h), ?_⟩
      gi_wp2
      go_end0
      exact ⟨⟨_, rfl⟩, .inl ⟨pre, by simp [hx], hJs⟩⟩
    | cons x rest =>
      have hl' := hl
      obtain ⟨b, q', rfl, hb, hv, hq, hr⟩ := hl
      obtain ⟨fn, tmps, assign, body, hy, hR2⟩ := hY pre x wr hJs (by rw [hx]; simp)
      gi_wp2
      refine hR2.mono ?_
      rintro e W3 (⟨rfl, hJ3, hk3⟩ | ⟨rfl, hJx3⟩)
      · have hq3 : W3.cell? ⟨b, 1, none⟩ = some (.pointer q') := (hk3.cell (p := ⟨b, 1, none⟩) hb).trans hq
        gi_wp2
        go_roundw
        case rel => exact ⟨pre ++ [x], rest, q', rfl, by simp [hx], hr.below hk3, hJ3⟩
        case measure => rw [left_eq (hr.below hk3), left_eq hl']; simp
      · gi_wp2
        go_end0
        exact ⟨⟨_, rfl⟩, .inr ⟨pre ++ [x], ⟨rest, by simp [hx]⟩, hJx3⟩⟩
set_option maxHeartbeats 1000000 in
theorem all_in (F : Fence) (n : Nat) (h5 : F.fn 31) (hro : F.round = none) (p0 : Option Addr) (w : World) :
    CallsIn F n Try.prog 31 #[.pointer p0] w fun e w' => e = .returned (.func (.func 37) #[] #[.pointer (some ⟨w.heap.size, 0, none⟩)]) ∧ w' = w.alloc (.cells #[.pointer p0] 103) := by
  refine callsIn_of_wp Try.func31 rfl h5 ?_ hro
  simp only [Try.ntmps31, List.size_toArray, List.length_cons, List.length_nil, Nat.reduceAdd, Nat.reduceSub, Array.replicate_succ, Array.replicate_zero, List.push_toArray, List.append_toArray, List.nil_append, List.cons_append]
  gi_wp2
  go_ret
  exact ⟨rfl, rfl⟩
theorem all_stops (F : Fence) (n : Nat) (h6 : F.fn 37) (hro : F.round = none) (hn : 1 ≤ n) (Bn R n0 : Nat) (p0 : Option Addr) (xs : List Sl) (w : World) (hBn : Bn < w.heap.size) (hn0 : n0 ≤ w.heap.size) (hRn : R < n0)
    (hc : w.cell? ⟨Bn, 0, none⟩ = some (.pointer (some ⟨R, 0, none⟩))) (hR : w.cell? ⟨R, 0, none⟩ = some (.pointer p0)) (hL : IsList n0 w p0 xs) :
    SeqStopsK F n Try.prog 37 #[.pointer (some ⟨Bn, 0, none⟩)] (fun x : Sl => #[Value.slice x.1 x.2.1 x.2.2]) (Below n0) (fun ys => ys = xs) (fun pre => pre <+: xs) xs.length w := fun l J Jx W hW _ _ hY h0 =>
  all1_in F n h6 hro hn l Bn R n0 p0 xs J Jx hY W ((hW.cell (p := ⟨Bn, 0, none⟩) hBn).trans hc) ((hW.cell (p := ⟨R, 0, none⟩) (Nat.lt_of_lt_of_le hRn hn0)).trans hR) (hL.below (hW.mono hn0)) h0
end Go.Proofs.Ytlajffbjkgedhaa.M
