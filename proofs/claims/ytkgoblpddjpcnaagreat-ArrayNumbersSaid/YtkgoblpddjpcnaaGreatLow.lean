/-
  must, low (the iterator), place.
-/
import Derived.RangeFuncNested
import Derived.RangeFuncBound
import Derived.RangeFuncCalls
import Derived.RangeFuncLeaves
import Derived.RangeFuncFrom
import Derived.Shelf.Abstract
import Derived.Shelf.RegionOpen
import Derived.WalkKit
import Derived.OwnWalkIn
import Derived.TacticsInMore
import Derived.LoopNIn
import Derived.LoopIn
import Derived.Laws.EntriesVeiled
import Derived.Test.YtkgoblpddjpcnaaGreatTried
import Derived.Test.YtkgoblpddjpcnaaGreatRow
namespace Go.Proofs.YtkgoblpddjpcnaaGreat.M
open Go.RowKit Go.Shelf
set_option linter.unusedVariables false
set_option linter.unusedSectionVars false
set_option linter.unusedSimpArgs false
attribute [local go_sem] Oper.semAt_some
theorem must_yes (E : Int) (w : World) : Calls Tryz.prog 22 #[.bool true, .int .i64 E] w fun e w' => e = .returned (.tuple #[]) ∧ w = w' := by
  go_enter Tryz.func22, Tryz.ntmps22
  go_wp2_with fail
  go_end0
  exact ⟨rfl, rfl⟩
theorem must_no (E : Int) (w : World) : Calls Tryz.prog 22 #[.bool false, .int .i64 E] w fun e w' => e = thrown E ∧ w = w' := by
  go_enter Tryz.func22, Tryz.ntmps22
  go_wp2_with fail
  exact ⟨rfl, rfl, rfl⟩
/-- What the iterator tells of a key of four bytes. -/
def keyItems (k0 k1 k2 k3 : Int) : List (Int × Int) := [(1, k0), (256, k1), (65536, k2), (16777216, k3)]
set_option maxRecDepth 100000 in
set_option maxHeartbeats 2000000 in
theorem low1_in (F : Fence) (n : Nat) (h6 : F.fn 79) (hro : F.round = none) (hn : 1 ≤ n) (l Bn n0 : Nat) (ad : Addr) (c : Nat) (k0 k1 k2 k3 : Int) (J Jx : List (Int × Int) → World → Prop)
    (hY : ∀ pre x W, J pre W → pre.length < (keyItems k0 k1 k2 k3).length → YieldAt F (n - 1) Tryz.prog l #[.int .i64 x.1, .int .u8 x.2] W fun e W' =>
      (e = .returned (.bool true) ∧ J (pre ++ [x]) W' ∧ Below n0 W W') ∨ (e = .returned (.bool false) ∧ Jx (pre ++ [x]) W'))
    (W : World) (hBn : W.cell? ⟨Bn, 0, none⟩ = some (.slice (some ad) 4 c)) (hgn : ad.block < n0) (hL : ∀ j (b : Int), [k0, k1, k2, k3][j]? = some b → W.cell? (ad.add j) = some (.int .u8 b)) (h0 : J [] W) :
    CallsIn F n Tryz.prog 79 #[.func (.yield l) #[] #[], .pointer (some ⟨Bn, 0, none⟩)] W fun e W' => (∃ v, e = .returned v) ∧
      ((∃ ys, ys = keyItems k0 k1 k2 k3 ∧ J ys W') ∨ (∃ pre, pre <+: keyItems k0 k1 k2 k3 ∧ Jx pre W')) := by
  refine callsIn_of_wp Tryz.func79 rfl h6 ?_ hro
  simp only [Tryz.ntmps79, List.size_toArray, List.length_cons, List.length_nil, Nat.reduceAdd, Nat.reduceSub, Array.replicate_succ, Array.replicate_zero, List.push_toArray, List.append_toArray, List.nil_append, List.cons_append]
  gi_wp2
  gi_loopw [7] (fun i wr => ∃ j : Nat, j ≤ 4 ∧ i = .int .i64 j ∧ J ((keyItems k0 k1 k2 k3).take j) wr ∧ Below n0 W wr) (fun i _ => 4 - (intOf i).toNat)
  case atStart =>
    exact ⟨0, Nat.zero_le _, rfl, h0, Below.refl _ _⟩
  case round =>
    obtain ⟨j, hj, rfl, hJ, hb⟩ := hrel
    have HJ := Lib.hid hJ
    have HB := Lib.hid hb
    clear hJ hb
    by_cases hlt : j < 4
    · obtain ⟨M, b, hM, hb, hsh⟩ : ∃ M b : Int, (keyItems k0 k1 k2 k3)[j]? = some (M, b) ∧ [k0, k1, k2, k3][j]? = some b ∧ wrap64 ((2 : Int) ^ (8 * j)) = M := by
        match j, hlt with
        | 0, _ => exact ⟨1, k0, rfl, rfl, by decide +kernel⟩
        | 1, _ => exact ⟨256, k1, rfl, rfl, by decide +kernel⟩
        | 2, _ => exact ⟨65536, k2, rfl, rfl, by decide +kernel⟩
        | 3, _ => exact ⟨16777216, k3, rfl, rfl, by decide +kernel⟩
      have c1 : wr.cell? (ad.add j) = some (.int .u8 b) := (HB.out.cell (p := ad.add j) (by rw [block_of_add]; exact hgn)).trans (hL j _ hb)
      have HM := Lib.hid hM
      have hj0 : (0 : Int) ≤ j := by omega
      have hj1 : (j : Int) < 4 := by omega
      have hlen : ((keyItems k0 k1 k2 k3).take j).length < (keyItems k0 k1 k2 k3).length := by rw [List.length_take]; show min j 4 < 4; omega
      have hmore : (keyItems k0 k1 k2 k3).take (j + 1) = (keyItems k0 k1 k2 k3).take j ++ [(M, b)] := by rw [List.take_add_one, hM, Option.toList_some]
      have HU := Lib.hid hmore
      obtain ⟨fn, tmps, assign, body, hy, hR2⟩ := hY ((keyItems k0 k1 k2 k3).take j) (M, b) wr HJ.out hlen
      have HP : Hid ((keyItems k0 k1 k2 k3).take (j + 1) <+: keyItems k0 k1 k2 k3) := Lib.hid (List.take_prefix _ _)
      clear hM hb hlen hmore
      gi_wp2
      refine hR2.mono ?_
      rintro e W3 (⟨rfl, hJ3, hk3⟩ | ⟨rfl, hJx3⟩)
      · gi_wp2
        go_roundw
        case rel => exact ⟨j + 1, by omega, by go_num, by rw [HU.out]; exact hJ3, HB.out.trans hk3⟩
        case measure => simp [intOf]; omega
      · gi_wp2
        exact bodyPost_ret (results_none rfl _ _ _) rfl ⟨⟨_, rfl⟩, .inr ⟨_, by rw [← HU.out]; exact HP.out, hJx3⟩⟩
    · obtain rfl : j = 4 := by omega
      gi_wp2
      go_end0
      exact ⟨⟨_, rfl⟩, .inl ⟨_, rfl, HJ.out⟩⟩
set_option maxHeartbeats 1000000 in
theorem low_in (F : Fence) (n : Nat) (h5 : F.fn 52) (hro : F.round = none) (s : Value) (hs : ∃ a m c, s = .slice a m c) (w : World) :
    CallsIn F n Tryz.prog 52 #[s] w fun e w' => e = .returned (.func (.func 79) #[] #[.pointer (some ⟨w.heap.size, 0, none⟩)]) ∧ w' = w.alloc (.cells #[s] 36) := by
  obtain ⟨a, m, c, rfl⟩ := hs
  refine callsIn_of_wp Tryz.func52 rfl h5 ?_ hro
  simp only [Tryz.ntmps52, List.size_toArray, List.length_cons, List.length_nil, Nat.reduceAdd, Nat.reduceSub, Array.replicate_succ, Array.replicate_zero, List.push_toArray, List.append_toArray, List.nil_append, List.cons_append]
  gi_wp2
  go_ret
  exact ⟨rfl, rfl⟩
theorem low_stops (F : Fence) (n : Nat) (h6 : F.fn 79) (hro : F.round = none) (hn : 1 ≤ n) (Bn n0 : Nat) (ad : Addr) (c : Nat) (k0 k1 k2 k3 : Int) (w : World) (hBn : Bn < w.heap.size) (hn0 : n0 ≤ w.heap.size) (had : ad.block < n0)
    (hc : w.cell? ⟨Bn, 0, none⟩ = some (.slice (some ad) 4 c)) (hL : ∀ j (b : Int), [k0, k1, k2, k3][j]? = some b → w.cell? (ad.add j) = some (.int .u8 b)) :
    SeqStopsK F n Tryz.prog 79 #[.pointer (some ⟨Bn, 0, none⟩)] (fun x : Int × Int => #[.int .i64 x.1, .int .u8 x.2]) (Below n0) (fun ys => ys = keyItems k0 k1 k2 k3) (fun pre => pre <+: keyItems k0 k1 k2 k3) (keyItems k0 k1 k2 k3).length w := fun l J Jx W hW _ _ hY h0 =>
  low1_in F n h6 hro hn l Bn n0 ad c k0 k1 k2 k3 J Jx hY W ((hW.cell (p := ⟨Bn, 0, none⟩) hBn).trans hc) had (fun j b hb => (hW.cell (p := ad.add j) (by rw [block_of_add]; omega)).trans (hL j b hb)) h0
end Go.Proofs.YtkgoblpddjpcnaaGreat.M
