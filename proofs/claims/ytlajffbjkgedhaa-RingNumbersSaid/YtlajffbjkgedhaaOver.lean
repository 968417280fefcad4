/-
  The contract of hatchwaykit.OverBytes: all of a row, and of what lies behind, is written over; nothing else turns.
-/
import Derived.Test.YtlajffbjkgedhaaKept
import Derived.Test.YtlajffbjkgedhaaQue
namespace Go.Proofs.Ytlajffbjkgedhaa.M
open Go.RowKit
set_option linter.unusedVariables false
set_option linter.unusedSectionVars false
set_option linter.unusedSimpArgs false
theorem over_nil (w : World) : Calls Try.prog 18 #[.slice none 0 0] w fun e w' => e = .returned (.tuple #[]) ∧ But [] w w' := by
  go_enter Try.func18, Try.ntmps18
  go_wp2_with fail
  refine wp_loop_rounds 1 ?_
  rw [rounds_succ]
  go_wp2_with fail
  go_end0
  exact ⟨rfl, But.refl _ _⟩
set_option maxRecDepth 100000 in
set_option maxHeartbeats 2000000 in
theorem over_some1 (g o n c : Nat) (cur : Array Value) (w : World) (hg : w.heap[g]? = some (.cells cur 5 (0, 0))) (hs : o + c ≤ cur.size) (hn : n ≤ c) (hc : c ≤ 1000000000000000) (hq : (c : Int) ≤ n + 12) :
    Calls Try.prog 18 #[.slice (some ⟨g, o, none⟩) n c] w fun e w' => e = .returned (.tuple #[]) ∧ But [g] w w' := by
  have HG := Lib.hid hg
  have hlt := lt_of hg
  clear hg
  go_enter Try.func18, Try.ntmps18
  go_wp2_with fail
  go_loopw [3] (fun i wr => ∃ k : Nat, k ≤ c ∧ i = .int .i64 k ∧ (∃ cu, wr.heap[g]? = some (.cells cu 5 (0, 0)) ∧ cu.size = cur.size) ∧ But [g] w wr) (fun i _ => c - (intOf i).toNat)
  case atStart => exact ⟨0, Nat.zero_le _, rfl, ⟨cur, HG.out, rfl⟩, But.refl _ _⟩
  case round =>
    obtain ⟨k, hk, rfl, ⟨cu, hcu, hsz⟩, hb⟩ := hrel
    have HB := Lib.hid hb
    have HC := Lib.hid hcu
    have HZ := Lib.hid hsz
    clear hb hcu hsz
    by_cases hlt2 : k < c
    · have hk0 : (0 : Int) ≤ k := by omega
      have hki : (k : Int) < (c : Int) := by omega
      have hks : o + k < cu.size := by rw [HZ.out]; omega
      have c1 : wr.cell? ⟨g, o + k, none⟩ = some (cu[o + k]'hks) := by
        unfold World.cell?
        rw [HC.out]
        simp [hks]
      have f1 : wr.frozen? ⟨g, o + k, none⟩ = false := by
        unfold World.frozen?
        rw [HC.out]
        simp
      go_wp2_with (go_at_call 25; refine (markB _ _ _).mono ?_; rintro e w1 ⟨rfl, rfl⟩)
      go_roundw
      case rel => exact ⟨k + 1, by omega, by go_num, ⟨cu.setIfInBounds (o + k) (.int .u8 (mb 2 k)), by simp [World.setCell, Array.getElem?_modify, HC.out], by simpa using HZ.out⟩, HB.out.setCell (.inl (by simp)) _⟩
      case measure => simp [intOf]; omega
    · obtain rfl : k = c := by omega
      go_wp2_with fail
      go_end0
      exact ⟨rfl, HB.out⟩
set_option maxRecDepth 100000 in
set_option maxHeartbeats 2000000 in
theorem over_some2 (g o n c : Nat) (cur : Array Value) (w : World) (hg : w.heap[g]? = some (.cells cur 5 (0, 0))) (hs : o + c ≤ cur.size) (hn : n ≤ c) (hc : c ≤ 1000000000000000) (hq : ¬ (c : Int) ≤ n + 12) :
    Calls Try.prog 18 #[.slice (some ⟨g, o, none⟩) n c] w fun e w' => e = .returned (.tuple #[]) ∧ But [g] w w' := by
  have HG := Lib.hid hg
  have hlt := lt_of hg
  have e : ((n : Int) + 12).toNat = n + 12 := by omega
  clear hg
  go_enter Try.func18, Try.ntmps18
  go_wp2_with fail
  go_loopw [3] (fun i wr => ∃ k : Nat, k ≤ n + 12 ∧ i = .int .i64 k ∧ (∃ cu, wr.heap[g]? = some (.cells cu 5 (0, 0)) ∧ cu.size = cur.size) ∧ But [g] w wr) (fun i _ => n + 12 - (intOf i).toNat)
  case atStart => exact ⟨0, Nat.zero_le _, rfl, ⟨cur, HG.out, rfl⟩, But.refl _ _⟩
  case round =>
    obtain ⟨k, hk, rfl, ⟨cu, hcu, hsz⟩, hb⟩ := hrel
    have HB := Lib.hid hb
    have HC := Lib.hid hcu
    have HZ := Lib.hid hsz
    clear hb hcu hsz
    by_cases hlt2 : k < n + 12
    · have hk0 : (0 : Int) ≤ k := by omega
      have hki : (k : Int) < (n : Int) + 12 := by omega
      have hks : o + k < cu.size := by rw [HZ.out]; omega
      have c1 : wr.cell? ⟨g, o + k, none⟩ = some (cu[o + k]'hks) := by
        unfold World.cell?
        rw [HC.out]
        simp [hks]
      have f1 : wr.frozen? ⟨g, o + k, none⟩ = false := by
        unfold World.frozen?
        rw [HC.out]
        simp
      go_wp2_with (go_at_call 25; refine (markB _ _ _).mono ?_; rintro e w1 ⟨rfl, rfl⟩)
      go_roundw
      case rel => exact ⟨k + 1, by omega, by go_num, ⟨cu.setIfInBounds (o + k) (.int .u8 (mb 2 k)), by simp [World.setCell, Array.getElem?_modify, HC.out], by simpa using HZ.out⟩, HB.out.setCell (.inl (by simp)) _⟩
      case measure => simp [intOf]; omega
    · obtain rfl : k = n + 12 := by omega
      go_wp2_with fail
      go_end0
      exact ⟨rfl, HB.out⟩
theorem over_some (g o n c : Nat) (cur : Array Value) (w : World) (hg : w.heap[g]? = some (.cells cur 5 (0, 0))) (hs : o + c ≤ cur.size) (hn : n ≤ c) (hc : c ≤ 1000000000000000) :
    Calls Try.prog 18 #[.slice (some ⟨g, o, none⟩) n c] w fun e w' => e = .returned (.tuple #[]) ∧ But [g] w w' := by
  by_cases h : (c : Int) ≤ n + 12
  · exact over_some1 g o n c cur w hg hs hn hc h
  · exact over_some2 g o n c cur w hg hs hn hc h
theorem over_lent {w : World} {v : Value} {xs : List Value} (h : Lent w v xs) (hl : xs.length ≤ 140737488351232) :
    Calls Try.prog 18 #[v] w fun e w' => e = .returned (.tuple #[]) ∧ But v.ownBlock.toList w w' := by
  obtain ⟨g, e⟩ := h.form
  subst e
  obtain ⟨cur, hg, hz⟩ := h.tag g rfl
  exact over_some g 0 _ _ cur w hg (by omega) (by omega) (by omega)
end Go.Proofs.Ytlajffbjkgedhaa.M
