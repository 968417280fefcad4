/-
  slices.Index of bools: the first free place.
-/
import Derived.Test.YtpoinhfkgnkedaaTrie
namespace Go.Proofs.Ytpoinhfkgnkedaa.M
open Go.RowKit Go.Shelf
set_option linter.unusedVariables false
set_option linter.unusedSectionVars false
set_option linter.unusedSimpArgs false
def UsedW (w : World) (U N : Nat) (f : Nat → Bool) : Prop := ∃ C, w.heap[U]? = some (.cells C 4 (0, 0)) ∧ C.size = N ∧ ∀ i, i < N → C[i]? = some (.bool (f i))
def RoomW (w : World) (Rm V N : Nat) (g : Nat → Nat) : Prop := ∃ C, w.heap[Rm]? = some (.cells C 26 (0, 0)) ∧ C.size = N ∧ ∀ i, i < N → C[i]? = some (.slice (some ⟨g i, 0, none⟩) V V)
def RowsW (w : World) (V N : Nat) (g : Nat → Nat) (rows : List (List Int)) : Prop := rows.length = N ∧ ∀ (i : Nat) (r : List Int), rows[i]? = some r → w.heap[g i]? = some (.cells (u8s r).toArray 5 (0, 0)) ∧ r.length = V ∧ ByteL r
/-- The first free place. -/
def freeI (f : Nat → Bool) (N : Nat) : Option Nat := (List.range N).find? fun i => !f i
def freeV (o : Option Nat) : Int := match o with | some i => i | none => -1
theorem freeI_at {f : Nat → Bool} {N k : Nat} (hk : k < N) (h0 : ∀ j, j < k → f j = true) (h1 : f k = false) : freeI f N = some k := by
  unfold freeI
  rw [List.find?_eq_some_iff_getElem]
  refine ⟨by simp [h1], k, by simpa using hk, by simp, fun j hj => by simp [h0 j hj]⟩
theorem freeI_none {f : Nat → Bool} {N : Nat} (h0 : ∀ j, j < N → f j = true) : freeI f N = none := by
  unfold freeI
  rw [List.find?_eq_none]
  intro x hx
  rw [List.mem_range] at hx
  simp [h0 x hx]
theorem ix_meas {N k : Nat} (h : k < N) : N - (intOf (.int .i64 ((k : Int) + 1))).toNat < N - (intOf (.int .i64 (k : Int))).toNat := by
  simp only [intOf]
  omega
set_option maxRecDepth 100000 in
theorem index_c (U N : Nat) (f : Nat → Bool) (w : World) (hU : UsedW w U N f) (hN : N ≤ 1000000000) : Calls Try.prog 37 #[.slice (some ⟨U, 0, none⟩) N N, .bool false] w fun e w' => e = .returned (.int .i64 (freeV (freeI f N))) ∧ w = w' := by
  obtain ⟨C, hC, hs, hc⟩ := hU
  have HC : Hid (∀ k, k < N → w.cell? ⟨U, k, none⟩ = some (.bool (f k))) := Lib.hid fun k hk => (cl_of hC k).trans (hc k hk)
  clear hC hs hc
  go_enter Try.func37, Try.ntmps37
  go_wp2_with fail
  go_loopw [8] (fun i wr => ∃ k : Nat, k ≤ N ∧ i = .int .i64 (k : Int) ∧ w = wr ∧ ∀ j, j < k → f j = true) (fun i _ => N - (intOf i).toNat)
  case atStart => exact ⟨0, Nat.zero_le _, rfl, rfl, fun j hj => by omega⟩
  case round =>
    obtain ⟨k, hk, rfl, rfl, hf⟩ := hrel
    have HF := Lib.hid hf
    clear hf
    by_cases hlt : k < N
    · have c := HC.out k hlt
      have hk0 : (0 : Int) ≤ k := by omega
      have hlt' : (k : Int) < N := by omega
      have hw1 : wrap64 ((k : Int) + 1) = (k : Int) + 1 := by rw [wrap64]; omega
      have HLT := Lib.hid hlt
      have HMS := Lib.hid (ix_meas hlt)
      cases hfk : f k with
      | true =>
        rw [hfk] at c
        have HFK := Lib.hid hfk
        clear hfk
        go_wp2_with fail
        go_roundw
        case rel => exact ⟨k + 1, HLT.out, by simp, trivial, fun j hj => by
          rcases Nat.lt_succ_iff_lt_or_eq.1 hj with h | rfl
          · exact HF.out j h
          · exact HFK.out⟩
        case measure => exact HMS.out
      | false =>
        rw [hfk] at c
        have HFK := Lib.hid hfk
        clear hfk
        go_wp2_with fail
        go_ret
        exact ⟨by rw [freeI_at HLT.out HF.out HFK.out]; rfl, rfl⟩
    · obtain rfl : k = N := by omega
      go_wp2_with fail
      go_ret
      exact ⟨by rw [freeI_none HF.out]; rfl, rfl⟩
end Go.Proofs.Ytpoinhfkgnkedaa.M
