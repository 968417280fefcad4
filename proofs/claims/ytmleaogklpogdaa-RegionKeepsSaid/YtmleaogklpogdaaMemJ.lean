/-
  What is written into a part: the closure's contract.
-/
import Derived.Test.YtmleaogklpogdaaCopy
namespace Go.Proofs.Ytmleaogklpogdaa.M
open Go.RowKit
set_option linter.unusedVariables false
set_option linter.unusedSectionVars false
set_option linter.unusedSimpArgs false
theorem writeF (c p q o : Nat) (kind : Int) (sl sv : Value) (bs xs : List Value) (w : World) (hc : w.heap[c]? = some (.cells #[.int .u8 kind, sl] 51)) (hown : Own w sl bs) (hs : Sees w sv xs) (hx : Bytes xs) (hfit : o + xs.length ≤ bs.length) (hlen : bs.length ≤ 4096)
    (hp : w.heap[p]? = some (.cells #[.int .i64 o] 2)) (hq : w.heap[q]? = some (.cells #[sv] 33)) :
    Calls Try.prog 21 (#[.pointer (some ⟨c, 0, none⟩)] ++ #[.pointer (some ⟨p, 0, none⟩), .pointer (some ⟨q, 0, none⟩)]) w fun e w' => e = nothing ∧ Own w' sl (splice bs o xs) ∧ ∃ L, But L w w' ∧ ∀ x ∈ L, sl.ownBlock = some x := by
  have cp : w.cell? ⟨p, 0, none⟩ = some (.int .i64 o) := cell_of hp 0
  show Calls Try.prog 21 #[.pointer (some ⟨c, 0, none⟩), .pointer (some ⟨p, 0, none⟩), .pointer (some ⟨q, 0, none⟩)] w _
  rcases hown.2 with ⟨rfl, hn⟩ | ⟨g, cap, cur, rfl, h0, hg, hcap, hmax, hsz, htake⟩
  · obtain rfl : bs = [] := List.eq_nil_of_length_eq_zero hn
    simp only [List.length_nil] at hfit
    obtain rfl : o = 0 := by omega
    obtain rfl : xs = [] := List.eq_nil_of_length_eq_zero (by omega)
    have c1 : w.cell? ⟨c, 1, none⟩ = some (.slice none 0 0) := cell_of hc 1
    have hs' : ∃ a n cap, sv = .slice a n cap := by rcases hs with ⟨rfl, _⟩ | ⟨ad, cc, rfl, _⟩ <;> exact ⟨_, _, _, rfl⟩
    obtain ⟨a, n, cap, rfl⟩ := hs'
    have cq : w.cell? ⟨q, 0, none⟩ = some (.slice a n cap) := cell_of hq 0
    go_enter Try.func21, Try.ntmps21
    go_wp2
    go_region_law (refine step_copy_nil rfl (.tmp 9) (.tmp 10) 33 33 rfl 5 Try.underlying33 (by kernel_rfl) _ _ _ _ _ _ rfl rfl (by simp) ?_)
    all_goals
      go_end0
      exact ⟨rfl, hown, [], (But.refl _ _).drew, by simp⟩
  · have c1 : w.cell? ⟨c, 1, none⟩ = some (.slice (some ⟨g, 0, none⟩) bs.length cap) := cell_of hc 1
    obtain ⟨sp, sn, sc, rfl, hsn, hsrc⟩ : ∃ sp sn sc, sv = .slice sp sn sc ∧ sn = xs.length ∧ (0 < xs.length → ∃ ad, sp = some ad ∧ ∀ j v, xs[j]? = some v → w.cell? (ad.add j) = some v) := by
      rcases hs with ⟨rfl, rfl⟩ | ⟨ad, cc, rfl, _, hh⟩
      · exact ⟨_, _, _, rfl, rfl, fun h => by simp at h⟩
      · exact ⟨_, _, _, rfl, rfl, fun _ => ⟨_, rfl, fun j v hj => hh j v hj⟩⟩
    subst hsn
    have cq : w.cell? ⟨q, 0, none⟩ = some (.slice sp xs.length sc) := cell_of hq 0
    have hg2 : w.drew.heap[g]? = some (.cells cur.toList.toArray 5 (0, 0)) := by rw [Array.toArray_toList]; exact hg
    have hcl : cur.toList.length = cap := by simpa using hsz
    rw [Nat.mul_one] at htake
    have hle : o ≤ bs.length := by omega
    by_cases hcut : cap = o
    · subst hcut
      obtain rfl : xs = [] := List.eq_nil_of_length_eq_zero (by omega)
      go_enter Try.func21, Try.ntmps21
      go_wp2
      go_region_law (refine step_copy_nil rfl (.tmp 9) (.tmp 10) 33 33 rfl 5 Try.underlying33 (by kernel_rfl) _ _ _ _ _ _ rfl rfl (by simp) ?_)
      all_goals
        go_end0
        refine ⟨rfl, ?_, [], (But.refl _ _).drew, by simp⟩
        have : splice bs cap [] = bs := by simp [splice]
        rw [this]
        exact hown
    · go_enter Try.func21, Try.ntmps21
      go_wp2
      go_region_law (refine step_copy rfl (.tmp 9) (.tmp 10) 33 33 rfl 5 Try.underlying33 (by kernel_rfl) _ _ _ _ _ _ rfl rfl g o cur.toList 5 hg2 xs (Nat.min_eq_left (by omega)).symm (fun h => ⟨by first | rfl | simp, hsrc h⟩) (by omega) hx.one ?_; intro w4 hg4 hb4)
      all_goals
        go_end0
        refine ⟨rfl, ⟨?_, .inr ⟨g, cap, (splice cur.toList o xs).toArray, ?_, Nat.zero_le _, hg4.out, ?_, hmax, ?_, ?_⟩⟩, [g], (((But.refl [g] w).drew).trans hb4 (by simp)), by intro x hx; simp at hx; subst hx; rfl⟩
        · omega
        · rw [length_splice' hfit]
        · rw [length_splice' hfit]; omega
        · simp [length_splice cur.toList o xs (by omega)]; omega
        · rw [length_splice' hfit, Nat.mul_one]
          exact take_splice htake (by omega) hfit
end Go.Proofs.Ytmleaogklpogdaa.M
