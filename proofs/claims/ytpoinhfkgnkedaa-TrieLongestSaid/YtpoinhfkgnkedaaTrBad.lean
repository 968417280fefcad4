/-
  trie: a key that is none.
-/
import Derived.Test.YtpoinhfkgnkedaaTrUpe
namespace Go.Proofs.Ytpoinhfkgnkedaa.M
open Go.RowKit Go.Shelf
set_option linter.unusedVariables false
set_option linter.unusedSectionVars false
set_option linter.unusedSimpArgs false
def KeyBad (K : Nat) (ks : List Int) : Prop := ks.length ≠ K ∨ 8 * ((K : Int) - 4) < leV (ks.take 4)
instance (K : Nat) (ks : List Int) : Decidable (KeyBad K ks) := by unfold KeyBad; infer_instance
theorem check_bad {w : World} {P root U Rm : Nat} {k : Int} {K V N : Nat} (h : HeadW w P root U Rm k K V N) (hK : 5 ≤ K ∧ K ≤ 36) (a : Option Addr) (c : Nat) (ks : List Int) (hs : Sees w (.slice a ks.length c) (u8s ks)) (hb : ByteL ks) (hbad : KeyBad K ks) :
    Calls Try.prog 34 #[.pointer (some ⟨P, 0, none⟩), .slice a ks.length c] w fun e w' => e = .returned (.int .i64 2) ∧ But [] w w' := by
  by_cases hn : ks.length = K
  · rcases hbad with hbad | hbad
    · exact absurd hn hbad
    · rcases id hs with ⟨h1, h2⟩ | ⟨ad, c', h1, _, _⟩
      · have := congrArg List.length h2
        rw [u8s_len] at this
        simp only [List.length_nil] at this
        omega
      · simp only [Value.slice.injEq] at h1
        obtain ⟨rfl, _, rfl⟩ := h1
        have hc := check_w h ad c ks hn (by omega) hs hb
        rwa [if_pos (by omega)] at hc
  · refine (check_len h a ks.length c (by exact_mod_cast hn)).mono ?_
    rintro e w' ⟨rfl, rfl⟩
    exact ⟨rfl, But.refl _ _⟩
section
variable {w : World} {P root U Rm : Nat} {k : Int} {K V N : Nat}
set_option maxRecDepth 100000 in
theorem lookup_bad (h : HeadW w P root U Rm k K V N) (hK : 5 ≤ K ∧ K ≤ 36) (a : Option Addr) (c : Nat) (ks : List Int) (hs : Sees w (.slice a ks.length c) (u8s ks)) (hb : ByteL ks) (hbad : KeyBad K ks) :
    Calls Try.prog 14 #[.pointer (some ⟨P, 0, none⟩), .slice a ks.length c] w fun e w' => e = .returned (.tuple #[.int .i64 0, .int .i64 2]) ∧ But [] w w' := by
  have HC := Lib.hid (check_bad h hK a c ks hs hb hbad)
  clear h hK hs hb hbad
  go_enter Try.func14, Try.ntmps14
  go_wp2_with fail
  refine HC.out.mono ?_
  rintro e w1 ⟨rfl, hb1⟩
  go_wp2_with fail
  go_ret2
  exact ⟨rfl, hb1⟩
set_option maxRecDepth 100000 in
theorem delete_bad (h : HeadW w P root U Rm k K V N) (hK : 5 ≤ K ∧ K ≤ 36) (a : Option Addr) (c : Nat) (ks : List Int) (hs : Sees w (.slice a ks.length c) (u8s ks)) (hb : ByteL ks) (hbad : KeyBad K ks) :
    Calls Try.prog 11 #[.pointer (some ⟨P, 0, none⟩), .slice a ks.length c] w fun e w' => e = .returned (.int .i64 2) ∧ But [] w w' := by
  have HC := Lib.hid (check_bad h hK a c ks hs hb hbad)
  clear h hK hs hb hbad
  go_enter Try.func11, Try.ntmps11
  go_wp2_with fail
  refine HC.out.mono ?_
  rintro e w1 ⟨rfl, hb1⟩
  go_wp2_with fail
  go_ret
  exact ⟨rfl, hb1⟩
set_option maxRecDepth 100000 in
theorem update_bad (h : HeadW w P root U Rm k K V N) (hK : 5 ≤ K ∧ K ≤ 36) (a : Option Addr) (c : Nat) (ks : List Int) (hs : Sees w (.slice a ks.length c) (u8s ks)) (hb : ByteL ks) (hbad : KeyBad K ks) (v : Value) (fl : Int) :
    Calls Try.prog 12 #[.pointer (some ⟨P, 0, none⟩), .slice a ks.length c, v, .int .u64 fl] w fun e w' => e = .returned (.int .i64 2) ∧ But [] w w' := by
  have HC := Lib.hid (check_bad h hK a c ks hs hb hbad)
  clear h hK hs hb hbad
  go_enter Try.func12, Try.ntmps12
  go_wp2_with fail
  refine HC.out.mono ?_
  rintro e w1 ⟨rfl, hb1⟩
  go_wp2_with fail
  go_ret
  exact ⟨rfl, hb1⟩
end
end Go.Proofs.Ytpoinhfkgnkedaa.M
