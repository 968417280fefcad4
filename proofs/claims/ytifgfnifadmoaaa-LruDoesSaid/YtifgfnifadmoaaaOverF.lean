/-
  hatchwaykit.OverBytes: a row of whatever capacity, that is not frozen where it is written.
-/
import Derived.Test.YtifgfnifadmoaaaLentAll
import Derived.Test.YtifgfnifadmoaaaKeysT
namespace Go.Proofs.Ytifgfnifadmoaaa.M
open Go.RowKit
set_option linter.unusedVariables false
set_option linter.unusedSectionVars false
set_option linter.unusedSimpArgs false
set_option maxRecDepth 100000 in
set_option maxHeartbeats 2000000 in
/-- OverBytes, of any capacity. -/
theorem over_bigF (g o n c : Nat) (cur : Array Value) (fr : Nat × Nat) (w : World) (hfr : ∀ j, j < cur.size → ¬ (fr.1 ≤ j ∧ j < fr.2)) (hg : w.heap[g]? = some (.cells cur 5 fr)) (hs : o + c ≤ cur.size) (hn : n ≤ c) (hn9 : n ≤ 1000000000000) (hq : ¬ (c : Int) ≤ n + 12) :
    Calls Try.prog 24 #[.slice (some ⟨g, o, none⟩) n c] w fun e w' => e = .returned (.tuple #[]) ∧ But [g] w w' ∧ ∃ cu, w'.heap[g]? = some (.cells cu 5 fr) ∧ cu.size = cur.size := by
  have HG := Lib.hid hg
  have HFR := Lib.hid hfr
  have hlt := lt_of hg
  have e : ((n : Int) + 12).toNat = n + 12 := by omega
  clear hg hfr
  go_enter Try.func24, Try.ntmps24
  go_wp2_with fail
  go_loopw [3] (fun i wr => ∃ k : Nat, k ≤ n + 12 ∧ i = .int .i64 k ∧ (∃ cu, wr.heap[g]? = some (.cells cu 5 fr) ∧ cu.size = cur.size) ∧ But [g] w wr) (fun i _ => n + 12 - (intOf i).toNat)
  case atStart => exact ⟨0, Nat.zero_le _, rfl, ⟨cur, HG.out, rfl⟩, But.refl _ _⟩
  case round =>
    obtain ⟨k, hk, rfl, ⟨cu, hcu, hsz⟩, hb⟩ := hrel
    have HB := Lib.hid hb
    have HC := Lib.hid hcu
    have HZ := Lib.hid hsz
    clear hb hcu hsz
    by_cases hlt2 : k < n + 12
    · have hk0 : (0 : Int) ≤ k := by omega
      have hki : (k : Int) < (n : Int) + 12 := by omega
      have hks : o + k < cu.size := by rw [HZ.out]; omega
      have c1 : wr.cell? ⟨g, o + k, none⟩ = some (cu[o + k]'hks) := by
        unfold World.cell?
        rw [HC.out]
        simp [hks]
      have f1 : wr.frozen? ⟨g, o + k, none⟩ = false := by
        unfold World.frozen?
        rw [HC.out]
        have := HFR.out (o + k) (by rw [← HZ.out]; exact hks)
        simpa using this
      go_wp2_with (go_at_call 41; refine (markB _ _ _).mono ?_; rintro e w1 ⟨rfl, rfl⟩)
      go_roundw
      case rel => exact ⟨k + 1, by omega, by go_num, ⟨cu.setIfInBounds (o + k) (.int .u8 (mb 2 k)), by simp [World.setCell, Array.getElem?_modify, HC.out], by simpa using HZ.out⟩, HB.out.setCell (.inl (by simp)) _⟩
      case measure => simp [intOf]; omega
    · obtain rfl : k = n + 12 := by omega
      go_wp2_with fail
      go_end0
      exact ⟨rfl, HB.out, _, HC.out, HZ.out⟩
set_option maxRecDepth 100000 in
set_option maxHeartbeats 2000000 in
/-- OverBytes, of any capacity. -/
theorem over_smallF (g o n c : Nat) (cur : Array Value) (fr : Nat × Nat) (w : World) (hfr : ∀ j, j < cur.size → ¬ (fr.1 ≤ j ∧ j < fr.2)) (hg : w.heap[g]? = some (.cells cur 5 fr)) (hs : o + c ≤ cur.size) (hn : n ≤ c) (hn9 : n ≤ 1000000000000) (hq : (c : Int) ≤ n + 12) :
    Calls Try.prog 24 #[.slice (some ⟨g, o, none⟩) n c] w fun e w' => e = .returned (.tuple #[]) ∧ But [g] w w' ∧ ∃ cu, w'.heap[g]? = some (.cells cu 5 fr) ∧ cu.size = cur.size := by
  have HG := Lib.hid hg
  have HFR := Lib.hid hfr
  have hlt := lt_of hg
  clear hg hfr
  go_enter Try.func24, Try.ntmps24
  go_wp2_with fail
  go_loopw [3] (fun i wr => ∃ k : Nat, k ≤ c ∧ i = .int .i64 k ∧ (∃ cu, wr.heap[g]? = some (.cells cu 5 fr) ∧ cu.size = cur.size) ∧ But [g] w wr) (fun i _ => c - (intOf i).toNat)
  case atStart => exact ⟨0, Nat.zero_le _, rfl, ⟨cur, HG.out, rfl⟩, But.refl _ _⟩
  case round =>
    obtain ⟨k, hk, rfl, ⟨cu, hcu, hsz⟩, hb⟩ := hrel
    have HB := Lib.hid hb
    have HC := Lib.hid hcu
    have HZ := Lib.hid hsz
    clear hb hcu hsz
    by_cases hlt2 : k < c
    · have hk0 : (0 : Int) ≤ k := by omega
      have hki : (k : Int) < (c : Int) := by omega
      have hks : o + k < cu.size := by rw [HZ.out]; omega
      have c1 : wr.cell? ⟨g, o + k, none⟩ = some (cu[o + k]'hks) := by
        unfold World.cell?
        rw [HC.out]
        simp [hks]
      have f1 : wr.frozen? ⟨g, o + k, none⟩ = false := by
        unfold World.frozen?
        rw [HC.out]
        have := HFR.out (o + k) (by rw [← HZ.out]; exact hks)
        simpa using this
      go_wp2_with (go_at_call 41; refine (markB _ _ _).mono ?_; rintro e w1 ⟨rfl, rfl⟩)
      go_roundw
      case rel => exact ⟨k + 1, by omega, by go_num, ⟨cu.setIfInBounds (o + k) (.int .u8 (mb 2 k)), by simp [World.setCell, Array.getElem?_modify, HC.out], by simpa using HZ.out⟩, HB.out.setCell (.inl (by simp)) _⟩
      case measure => simp [intOf]; omega
    · obtain rfl : k = c := by omega
      go_wp2_with fail
      go_end0
      exact ⟨rfl, HB.out, _, HC.out, HZ.out⟩
theorem overF (g o n c : Nat) (cur : Array Value) (fr : Nat × Nat) (w : World) (hfr : ∀ j, j < cur.size → ¬ (fr.1 ≤ j ∧ j < fr.2)) (hg : w.heap[g]? = some (.cells cur 5 fr)) (hs : o + c ≤ cur.size) (hn : n ≤ c) (hn9 : n ≤ 1000000000000) :
    Calls Try.prog 24 #[.slice (some ⟨g, o, none⟩) n c] w fun e w' => e = .returned (.tuple #[]) ∧ But [g] w w' ∧ ∃ cu, w'.heap[g]? = some (.cells cu 5 fr) ∧ cu.size = cur.size := by
  by_cases h : (c : Int) ≤ n + 12
  · exact over_smallF g o n c cur fr w hfr hg hs hn hn9 h
  · exact over_bigF g o n c cur fr w hfr hg hs hn hn9 h
/-- A row that was made since is written over. -/
theorem over_row {w0 w : World} {v : Value} {bs : List Int} (h : NewRow w0 w v bs) (hl : bs.length ≤ 1000000000000) : Calls Try.prog 24 #[v] w fun e w' => e = .returned (.tuple #[]) ∧ ∃ L, But L w w' ∧ ∀ x ∈ L, w0.heap.size ≤ x := by
  obtain ⟨a, c, rfl, ho, hlow⟩ := h
  rcases ho with ⟨h1, _⟩ | ⟨g, o, cap, cur, h1, hg, hc, hm, hs, _⟩
  · rw [h1]
    exact (over_nil w).mono fun _ _ ⟨e, hb⟩ => ⟨e, [], hb, by simp⟩
  · rw [u8s_len] at h1 hc
    simp only [Value.slice.injEq] at h1
    obtain ⟨rfl, -, rfl⟩ := h1
    exact (overF g o bs.length c cur (0, 0) w (fun j _ h => by omega) hg hs hc hl).mono fun _ _ ⟨e, hb, _⟩ => ⟨e, [g], hb, fun x hx => by have e : x = g := (by simpa using hx); rw [e]; exact hlow g rfl⟩
end Go.Proofs.Ytifgfnifadmoaaa.M
