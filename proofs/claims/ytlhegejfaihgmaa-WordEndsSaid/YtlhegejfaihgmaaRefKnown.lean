/-
  The contract of the reference's 'known': does the table have both?
-/
import Derived.Test.YtlhegejfaihgmaaRefQ
namespace Go.Proofs.Ytlhegejfaihgmaa.RefW
open Go.RowKit
set_option linter.unusedVariables false
def Known (op off : Int) (wide : Bool) : Prop :=
  ((op = 48 ∨ op = 144) ∧ (off = 0 ∨ off = 1)) ∨ (op = 176 ∧ (off = 0 ∨ off = 8 ∨ off = 16 ∨ (off = 32 ∧ wide = true))) ∨
  ((op = 0 ∨ op = 16 ∨ op = 32 ∨ op = 64 ∨ op = 80 ∨ op = 160 ∨ op = 96 ∨ op = 112 ∨ op = 192 ∨ op = 128) ∧ off = 0)
instance (op off : Int) (wide : Bool) : Decidable (Known op off wide) := by unfold Known; infer_instance

theorem known_no (op off : Int) (wide : Bool) (w : World) (h : ¬ Known op off wide) :
    Calls Try.prog 23 #[.int .u8 op, .int .i16 off, .bool wide] w fun e w' => e = .returned (.bool false) ∧ w = w' := by
  unfold Known at h
  have H := Lib.hid h
  clear h
  by_cases h48 : op = 48
  · subst h48
    have f0 : (off == 0) = false := by have := H.out; simp at this; simpa using this.1
    have f1 : (off == 1) = false := by have := H.out; simp at this; simpa using this.2
    go_enter Try.func23, Try.ntmps23
    go_wp2
    go_ret
    exact ⟨rfl, rfl⟩
  by_cases h144 : op = 144
  · subst h144
    have f0 : (off == 0) = false := by have := H.out; simp at this; simpa using this.1
    have f1 : (off == 1) = false := by have := H.out; simp at this; simpa using this.2
    go_enter Try.func23, Try.ntmps23
    go_wp2
    go_ret
    exact ⟨rfl, rfl⟩
  by_cases h176 : op = 176
  · subst h176
    have hh := H.out
    simp at hh
    have f0 : (off == 0) = false := by simpa using hh.1
    have f1 : (off == 8) = false := by simpa using hh.2.1
    have f2 : (off == 16) = false := by simpa using hh.2.2.1
    have HH := Lib.hid hh
    clear hh
    by_cases h32 : off = 32
    · subst h32
      have hw : wide = false := by simpa using HH.out.2.2.2
      subst hw
      go_enter Try.func23, Try.ntmps23
      go_wp2
      go_ret
      exact ⟨rfl, rfl⟩
    · have f3 : (off == 32) = false := by simpa using h32
      clear h32
      go_enter Try.func23, Try.ntmps23
      go_wp2
      go_ret
      exact ⟨rfl, rfl⟩
  by_cases hs : op = 0 ∨ op = 16 ∨ op = 32 ∨ op = 64 ∨ op = 80 ∨ op = 160 ∨ op = 96 ∨ op = 112 ∨ op = 192 ∨ op = 128
  · have f0 : (off == 0) = false := by
      have := H.out
      simp only [not_or, not_and] at this
      simpa using this.2.2 hs
    clear H h48 h144 h176
    rcases hs with rfl | rfl | rfl | rfl | rfl | rfl | rfl | rfl | rfl | rfl
    all_goals
      go_enter Try.func23, Try.ntmps23
      go_wp2
      go_ret
      exact ⟨rfl, rfl⟩
  · simp only [not_or] at hs
    obtain ⟨s1, s2, s3, s4, s5, s6, s7, s8, s9, s10⟩ := hs
    have e1 : (op == 48) = false := by simpa using h48
    have e2 : (op == 144) = false := by simpa using h144
    have e3 : (op == 176) = false := by simpa using h176
    have k1 : (op == 0) = false := by simpa using s1
    have k2 : (op == 16) = false := by simpa using s2
    have k3 : (op == 32) = false := by simpa using s3
    have k4 : (op == 64) = false := by simpa using s4
    have k5 : (op == 80) = false := by simpa using s5
    have k6 : (op == 160) = false := by simpa using s6
    have k7 : (op == 96) = false := by simpa using s7
    have k8 : (op == 112) = false := by simpa using s8
    have k9 : (op == 192) = false := by simpa using s9
    have k10 : (op == 128) = false := by simpa using s10
    clear h48 h144 h176 s1 s2 s3 s4 s5 s6 s7 s8 s9 s10 H
    go_enter Try.func23, Try.ntmps23
    go_wp2
    go_ret
    exact ⟨rfl, rfl⟩

theorem known_yes (op off : Int) (wide : Bool) (w : World) (h : Hid (Known op off wide)) :
    Calls Try.prog 23 #[.int .u8 op, .int .i16 off, .bool wide] w fun e w' => e = .returned (.bool true) ∧ w = w' := by
  have h := h.out
  unfold Known at h
  rcases h with ⟨rfl | rfl, rfl | rfl⟩ | ⟨rfl, rfl | rfl | rfl | ⟨rfl, rfl⟩⟩ | ⟨rfl | rfl | rfl | rfl | rfl | rfl | rfl | rfl | rfl | rfl, rfl⟩
  all_goals
    go_enter Try.func23, Try.ntmps23
    go_wp2
    go_ret
    exact ⟨rfl, rfl⟩

theorem refAlu_no (op off : Int) (wide : Bool) (a b : Int) (w : World) (h : ¬ Known op off wide) :
    Calls Try.prog 9 #[.int .u8 op, .int .i16 off, .bool wide, .int .u64 a, .int .u64 b] w fun e w' => e = .returned (.tuple #[.int .u64 0, .bool false]) ∧ w = w' := by
  have H := Lib.hid h
  clear h
  go_enter Try.func9, Try.ntmps9
  go_wp2_with (go_at_call 23; refine (known_no _ _ _ _ H.out).mono ?_; rintro e w' ⟨rfl, rfl⟩)
  go_ret2
  exact ⟨rfl, rfl⟩
end Go.Proofs.Ytlhegejfaihgmaa.RefW
