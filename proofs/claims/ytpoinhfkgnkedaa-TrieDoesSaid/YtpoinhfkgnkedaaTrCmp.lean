/-
  trie.Keys$1: the comparison of two keys.
-/
import Derived.Test.YtpoinhfkgnkedaaTrKeys
import Derived.Lib.Bytealg
namespace Go.Proofs.Ytpoinhfkgnkedaa.M
open Go.RowKit Go.Shelf
set_option linter.unusedVariables false
set_option linter.unusedSectionVars false
set_option linter.unusedSimpArgs false
def toU8 (l : List Int) : List UInt8 := l.map fun x => x.toNat.toUInt8
theorem run_loadBytes {P : Program} : ∀ (l : List Int) (ad : Addr) (acc : ByteArray) (w : World), (∀ i x, l[i]? = some x → w.cell? (ad.add i) = some (.int .u8 x)) →
    (Extern.Bytes.loadBytes ad l.length acc).run P w = .ok ⟨(acc.data.toList ++ toU8 l).toArray⟩ w
  | [], ad, acc, w, h => by simp [Extern.Bytes.loadBytes, toU8, go_sem]
  | x :: l, ad, acc, w, h => by
    have h0 := h 0 x rfl
    rw [add_zero] at h0
    have ih := run_loadBytes (P := P) l (ad.add 1) (acc.push x.toNat.toUInt8) w (fun i y hy => by
      have := h (i + 1) y (by simpa using hy)
      have e : (ad.add 1).add i = ad.add (i + 1) := by
        by_cases hi : i = 0
        · subst hi; rw [add_zero]
        · simp [Addr.add, hi]; omega
      rw [e]; exact this)
    have e1 : ad.add 1 = ⟨ad.block, ad.off + 1, none⟩ := rfl
    rw [e1] at ih
    rw [List.length_cons]
    unfold Extern.Bytes.loadBytes
    simp [go_sem, h0, Addr.add, ih, toU8]
theorem run_compareS {P : Program} (a1 b1 : Option Addr) (c1 c2 : Nat) (a b : List Int) (w : World) (hsa : Sees w (.slice a1 a.length c1) (u8s a)) (hsb : Sees w (.slice b1 b.length c2) (u8s b)) :
    (Extern.BytealgCompare.compare #[.slice a1 a.length c1, .slice b1 b.length c2]).run P w = .ok (.int .i64 (Lib.compareBytes (toU8 a) (toU8 b))) w := by
  have one : ∀ (o : Option Addr) (c : Nat) (l : List Int), Sees w (.slice o l.length c) (u8s l) → (Extern.Bytes.bytesOf (.slice o l.length c)).run P w = .ok ⟨(toU8 l).toArray⟩ w := fun o c l hs => by
    rcases id hs with ⟨h1, h2⟩ | ⟨ad, c', h1, _, hx⟩
    · have hl := congrArg List.length h2
      rw [u8s_len] at hl
      obtain rfl : l = [] := List.eq_nil_of_length_eq_zero hl
      simp only [Value.slice.injEq] at h1
      obtain ⟨rfl, _, rfl⟩ := h1
      rfl
    · simp only [Value.slice.injEq] at h1
      obtain ⟨rfl, _, rfl⟩ := h1
      have := run_loadBytes (P := P) l ad .empty w (fun i x hi => hx i _ (u8s_at hi))
      unfold Extern.Bytes.bytesOf
      rw [this]
      simp
  show (do pure (goInt (Extern.BytealgCompare.cmp (← Extern.Bytes.bytesOf (.slice a1 a.length c1)) (← Extern.Bytes.bytesOf (.slice b1 b.length c2))))).run P w = _
  simp [go_sem, one _ _ _ hsa, one _ _ _ hsb, Lib.cmp_eq]
set_option maxRecDepth 100000 in
theorem compare_c (a1 b1 : Option Addr) (c1 c2 : Nat) (a b : List Int) (w : World) (hsa : Sees w (.slice a1 a.length c1) (u8s a)) (hsb : Sees w (.slice b1 b.length c2) (u8s b)) :
    Calls Try.prog 46 #[.slice a1 a.length c1, .slice b1 b.length c2] w fun e w' => e = .returned (.int .i64 (Lib.compareBytes (toU8 a) (toU8 b))) ∧ w = w' := by
  have hr := run_compareS (P := Try.prog) a1 b1 c1 c2 a b w hsa hsb
  go_enter Try.func46, Try.ntmps46
  go_wp2_with fail
  rw [run_callFunc_extern Try.func61 (by kernel_rfl) (by kernel_rfl) (by kernel_rfl) (e := Extern.BytealgCompare.compare) (by kernel_rfl), hr]
  simp only [Result.andThen]
  rw [Oper.upon_value]
  go_wp2_with fail
  go_ret
  exact ⟨rfl, rfl⟩
theorem isNaN_c (x : Int) (w : World) : Calls Try.prog 59 #[.int .i64 x] w fun e w' => e = .returned (.bool false) ∧ w = w' := by
  go_enter Try.func59, Try.ntmps59
  go_wp2_with fail
  go_ret
  exact ⟨by simp, rfl⟩
theorem cmpInt_c (x y : Int) (w : World) : Calls Try.prog 44 #[.int .i64 x, .int .i64 y] w fun e w' => e = .returned (.int .i64 (if x < y then -1 else if y < x then 1 else 0)) ∧ w = w' := by
  go_enter Try.func44, Try.ntmps44
  go_wp2_with (go_at_call 59; refine (isNaN_c _ _).mono ?_; rintro e w' ⟨rfl, rfl⟩)
  all_goals (go_ret; refine ⟨?_, rfl⟩; (repeat' split) <;> first | rfl | (exfalso; omega))
set_option maxRecDepth 100000 in
/-- cmp.Or of two. -/
theorem or_c (x y : Int) (b : Nat) (w : World) (h0 : w.cell? ⟨b, 0, none⟩ = some (.int .i64 x)) (h1 : w.cell? ⟨b, 1, none⟩ = some (.int .i64 y)) : Calls Try.prog 43 #[.slice (some ⟨b, 0, none⟩) 2 2] w fun e w' => e = .returned (.int .i64 (if x = 0 then y else x)) ∧ w = w' := by
  by_cases hx : x = 0
  · subst hx
    rw [if_pos rfl]
    by_cases hy : y = 0
    · subst hy
      go_enter Try.func43, Try.ntmps43
      go_wp2_with fail
      refine wp_loop_rounds 3 ?_
      rw [rounds_succ]
      go_wp2_with fail
      rw [rounds_succ]
      go_wp2_with fail
      rw [rounds_succ]
      go_wp2_with fail
      go_ret
      exact ⟨rfl, rfl⟩
    · have hy' : (y != 0) = true := by simpa using hy
      go_enter Try.func43, Try.ntmps43
      go_wp2_with fail
      refine wp_loop_rounds 3 ?_
      rw [rounds_succ]
      go_wp2_with fail
      rw [rounds_succ]
      go_wp2_with fail
      go_ret
      exact ⟨rfl, rfl⟩
  · rw [if_neg hx]
    have hx' : (x != 0) = true := by simpa using hx
    go_enter Try.func43, Try.ntmps43
    go_wp2_with fail
    refine wp_loop_rounds 3 ?_
    rw [rounds_succ]
    go_wp2_with fail
    go_ret
    exact ⟨rfl, rfl⟩
end Go.Proofs.Ytpoinhfkgnkedaa.M
