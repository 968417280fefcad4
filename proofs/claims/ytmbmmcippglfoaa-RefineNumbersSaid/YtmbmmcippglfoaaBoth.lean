/-
  refine.rules$2: a row of rules, twice, cut to two.
-/
import Derived.Test.YtmbmmcippglfoaaScH
import Derived.Test.YtmbmmcippglfoaaGF
namespace Go.Proofs.Ytmbmmcippglfoaa.M
open Go.RowKit Go.Shelf
set_option linter.unusedVariables false
set_option linter.unusedSectionVars false
set_option linter.unusedSimpArgs false

set_option maxRecDepth 100000 in
set_option maxHeartbeats 4000000 in
theorem both1 (f : Value) (hf : f.oneCell' = true) (B : Nat) (w : World) (hB : w.heap[B]? = some (.cells #[f] 59)) : Calls Try.prog 50 #[.slice (some ⟨B, 0, none⟩) 1 1] w fun e w' => ∃ b o c, e = .returned (.slice (some ⟨b, o, none⟩) 2 c) ∧ w'.cell? ⟨b, o, none⟩ = some f ∧ w'.cell? ⟨b, o + 1, none⟩ = some f ∧ 2 ≤ c ∧ But [] w w' := by
  obtain ⟨i0, hi, hz0, hz1, hz2⟩ := info_parts (show (Try.prog.info? 59).map (fun i => (i.zero, i.size, i.bytes)) = some (some .nilFunc, 1, 8) by kernel_rfl)
  have hown : OwnQ w 59 (.slice (some ⟨B, 0, none⟩) 1 1) [f] := .inr ⟨B, 0, 1, _, rfl, hB, by simp, by unfold maxLen; omega, by simp, fun j u hj => by
    have hj2 := (List.getElem?_eq_some_iff.1 hj).1
    simp only [List.length_cons, List.length_nil] at hj2
    match j, hj with
    | 0, hj => simpa using hj⟩
  have hsrc := src_sees (P := Try.prog) Try.underlying60 hz1 hown.sees (by simp [hf])
  have KEY : Hid (∀ v' w', Appended w w' 59 (.slice (some ⟨B, 0, none⟩) 1 1) v' [f] [f] → ∃ b o c, v' = .slice (some ⟨b, o, none⟩) 2 c ∧ w'.cell? ⟨b, o, none⟩ = some f ∧ w'.cell? ⟨b, o + 1, none⟩ = some f ∧ 2 ≤ c ∧ But [] w w') := Lib.hid (fun v' w' hap => by
    obtain ⟨ho, hc⟩ := hap
    rcases hc with ⟨a, cap, e1, e2, _, _⟩ | ⟨hob, hbt⟩
    · simp only [Value.slice.injEq] at e1
      obtain ⟨_, _, rfl⟩ := e1
      rcases ho with ⟨h1, _⟩ | ⟨g0, o0, cap0, cur0, h1, _, h2, _⟩
      · rw [e2] at h1; simp at h1
      · rw [e2] at h1
        simp only [Value.slice.injEq, List.length_append, List.length_cons, List.length_nil] at h1 h2
        omega
    · rcases ho with ⟨h1, _⟩ | ⟨g0, o0, cap0, cur0, h1, h2, h3, h4, h5, h6⟩
      · subst h1; simp [Value.ownBlock] at hob
      · have hq : OwnQ w' 59 (.slice (some ⟨g0, o0, none⟩) 2 cap0) ([f] ++ [f]) := .inr ⟨g0, o0, cap0, cur0, by simp, h2, h3, h4, h5, h6⟩
        exact ⟨g0, o0, cap0, by rw [h1]; simp, hq.cellAt (k := 0) (by simp), hq.cellAt (k := 1) (by simp), by simpa using h3, hbt⟩)
  have HO := Lib.hid hown
  have HS := Lib.hid hsrc
  clear hown hsrc hB
  go_enter Try.func50, Try.ntmps50
  go_wp2_with (at_builtin; refine wpList_append_row rfl _ _ 60 rfl 59 i0 .nilFunc 8 Try.underlying60 hi hz0 hz1 hz2 rfl _ [f] rfl HO.out [f] _ rfl HS.out (by unfold maxLen; simp only [List.length_cons, List.length_nil]; omega) (by simp only [List.length_cons, List.length_nil]; omega) ?_; intro v' w5 hap; obtain ⟨b, o, c, rfl, h0, h1, hc, hb⟩ := KEY.out _ _ hap; have H0 := Lib.hid h0; have H1 := Lib.hid h1; have HB := Lib.hid hb; clear hap h0 h1 hb)
  go_ret
  exact ⟨b, o, c, rfl, H0.out, H1.out, by omega, HB.out⟩
set_option maxRecDepth 100000 in
set_option maxHeartbeats 4000000 in
theorem both2 (f g : Value) (hf : f.oneCell' = true) (hg : g.oneCell' = true) (B : Nat) (w : World) (hB : w.heap[B]? = some (.cells #[f, g] 59)) : Calls Try.prog 50 #[.slice (some ⟨B, 0, none⟩) 2 2] w fun e w' => ∃ b o c, e = .returned (.slice (some ⟨b, o, none⟩) 2 c) ∧ w'.cell? ⟨b, o, none⟩ = some f ∧ w'.cell? ⟨b, o + 1, none⟩ = some g ∧ 2 ≤ c ∧ But [] w w' := by
  obtain ⟨i0, hi, hz0, hz1, hz2⟩ := info_parts (show (Try.prog.info? 59).map (fun i => (i.zero, i.size, i.bytes)) = some (some .nilFunc, 1, 8) by kernel_rfl)
  have hown : OwnQ w 59 (.slice (some ⟨B, 0, none⟩) 2 2) [f, g] := .inr ⟨B, 0, 2, _, rfl, hB, by simp, by unfold maxLen; omega, by simp, fun j u hj => by
    have hj2 := (List.getElem?_eq_some_iff.1 hj).1
    simp only [List.length_cons, List.length_nil] at hj2
    match j, hj with
    | 0, hj => simpa using hj
    | 1, hj => simpa using hj⟩
  have hsrc := src_sees (P := Try.prog) Try.underlying60 hz1 hown.sees (by simp [hf, hg])
  have KEY : Hid (∀ v' w', Appended w w' 59 (.slice (some ⟨B, 0, none⟩) 2 2) v' [f, g] [f, g] → ∃ b o c, v' = .slice (some ⟨b, o, none⟩) 4 c ∧ w'.cell? ⟨b, o, none⟩ = some f ∧ w'.cell? ⟨b, o + 1, none⟩ = some g ∧ 4 ≤ c ∧ But [] w w') := Lib.hid (fun v' w' hap => by
    obtain ⟨ho, hc⟩ := hap
    rcases hc with ⟨a, cap, e1, e2, _, _⟩ | ⟨hob, hbt⟩
    · simp only [Value.slice.injEq] at e1
      obtain ⟨_, _, rfl⟩ := e1
      rcases ho with ⟨h1, _⟩ | ⟨g0, o0, cap0, cur0, h1, _, h2, _⟩
      · rw [e2] at h1; simp at h1
      · rw [e2] at h1
        simp only [Value.slice.injEq, List.length_append, List.length_cons, List.length_nil] at h1 h2
        omega
    · rcases ho with ⟨h1, _⟩ | ⟨g0, o0, cap0, cur0, h1, h2, h3, h4, h5, h6⟩
      · subst h1; simp [Value.ownBlock] at hob
      · have hq : OwnQ w' 59 (.slice (some ⟨g0, o0, none⟩) 4 cap0) ([f, g] ++ [f, g]) := .inr ⟨g0, o0, cap0, cur0, by simp, h2, h3, h4, h5, h6⟩
        exact ⟨g0, o0, cap0, by rw [h1]; simp, hq.cellAt (k := 0) (by simp), hq.cellAt (k := 1) (by simp), by simpa using h3, hbt⟩)
  have HO := Lib.hid hown
  have HS := Lib.hid hsrc
  clear hown hsrc hB
  go_enter Try.func50, Try.ntmps50
  go_wp2_with (at_builtin; refine wpList_append_row rfl _ _ 60 rfl 59 i0 .nilFunc 8 Try.underlying60 hi hz0 hz1 hz2 rfl _ [f, g] rfl HO.out [f, g] _ rfl HS.out (by unfold maxLen; simp only [List.length_cons, List.length_nil]; omega) (by simp only [List.length_cons, List.length_nil]; omega) ?_; intro v' w5 hap; obtain ⟨b, o, c, rfl, h0, h1, hc, hb⟩ := KEY.out _ _ hap; have H0 := Lib.hid h0; have H1 := Lib.hid h1; have HB := Lib.hid hb; clear hap h0 h1 hb)
  go_ret
  exact ⟨b, o, c, rfl, H0.out, H1.out, by omega, HB.out⟩
end Go.Proofs.Ytmbmmcippglfoaa.M
