/-
  The contract of hatchwaykit.SameBytes: are two slices' bytes the same?
-/
import Derived.Test.YtpoinhfkgnkedaaGA
import Derived.Test.YtpoinhfkgnkedaaProg
import Derived.BigQuiet
import Derived.Deep.QuietTactic
import Derived.IntWalk
namespace Go.Proofs.Ytpoinhfkgnkedaa.M
open Go.RowKit
set_option linter.unusedVariables false
set_option linter.unusedSectionVars false
set_option linter.unusedSimpArgs false
theorem But.drewN {L : List Nat} {a b : World} (h : But L a b) (n : Nat) : But L a (b.drewN n) := ⟨h.os, h.tape, h.output, h.size, h.block⟩
theorem sees_shape {w : World} {s : Value} {xs : List Value} (h : Sees w s xs) : ∃ a c, s = .slice a xs.length c ∧ ∀ k u, xs[k]? = some u → ∃ ad, a = some ad ∧ w.cell? (ad.add k) = some u := by
  rcases h with ⟨rfl, rfl⟩ | ⟨ad, c, rfl, hc, hx⟩
  · exact ⟨_, _, rfl, fun k u h => by simp at h⟩
  · exact ⟨_, _, rfl, fun k u h => ⟨_, rfl, hx k u h⟩⟩
theorem same (s t : Value) (xs ys : List Int) (w : World) (hs : Sees w s (xs.map (.int .u8))) (ht : Sees w t (ys.map (.int .u8))) (hl : xs.length ≤ 1000000000000) :
    Calls Try.prog 19 #[s, t] w fun e w' => e = .returned (.bool (decide (xs = ys))) ∧ But [] w w' := by
  obtain ⟨a, c, rfl, hx⟩ := sees_shape hs
  obtain ⟨a2, c2, rfl, hy⟩ := sees_shape ht
  simp only [List.length_map]
  by_cases hlen : xs.length = ys.length
  · rw [← hlen]
    have HL := Lib.hid hlen
    clear hlen
    go_enter Try.func19, Try.ntmps19
    go_wp2
    go_loopw [5] (fun i wr => ∃ k : Nat, k ≤ xs.length ∧ i = .int .i64 k ∧ xs.take k = ys.take k ∧ But [] w wr) (fun i _ => xs.length - (intOf i).toNat)
    case atStart => exact ⟨0, by omega, rfl, by simp, But.refl _ _⟩
    case round =>
      obtain ⟨k, hk, rfl, heq, hbut⟩ := hrel
      by_cases hlt : k < xs.length
      · obtain ⟨x, hxk⟩ : ∃ x, xs[k]? = some x := ⟨_, List.getElem?_eq_getElem hlt⟩
        obtain ⟨y, hyk⟩ : ∃ y, ys[k]? = some y := ⟨_, List.getElem?_eq_getElem (by have := HL.out; omega)⟩
        obtain ⟨ad, rfl, hcx⟩ := hx k (.int .u8 x) (by simp [hxk])
        obtain ⟨ad2, rfl, hcy⟩ := hy k (.int .u8 y) (by simp [hyk])
        have h1 : wr.cell? (ad.add k) = some (.int .u8 x) := cell_but hbut hcx (by simp)
        have h2 : wr.cell? (ad2.add k) = some (.int .u8 y) := cell_but hbut hcy (by simp)
        have hklo : 0 ≤ (k : Int) := by omega
        have hkhi : (k : Int) < xs.length := by omega
        have hs1 : IntKind.i64.wrap ((k : Int) + 1) = (k : Int) + 1 := IntWalk.i64_in _ (by omega)
        have HX := Lib.hid hxk
        have HY := Lib.hid hyk
        have HB := Lib.hid hbut
        have HE := Lib.hid heq
        clear hcx hcy hx hy hs ht hxk hyk hbut heq
        by_cases hxy : x = y
        · subst hxy
          go_wp2
          go_quiet (fail)
          go_wp2
          refine ⟨⟨k + 1, by omega, by go_num, ?_, HB.out.drewN nq⟩, by simp [intOf]; omega⟩
          rw [List.take_add_one, List.take_add_one, HE.out, HX.out, HY.out]
        · have hn : (x != y) = true := by simpa using hxy
          go_wp2
          go_quiet (fail)
          go_wp2
          go_ret
          refine ⟨?_, HB.out.drewN nq⟩
          have e : xs ≠ ys := fun e => hxy (by
            have h1 := HX.out
            rw [e, HY.out] at h1
            exact (Option.some.inj h1).symm)
          simp [e]
      · obtain rfl : k = xs.length := by omega
        go_wp2
        go_ret
        refine ⟨?_, hbut⟩
        have e : xs = ys := by
          have h1 := heq
          rw [List.take_length, HL.out, List.take_length] at h1
          exact h1
        simp [e]
  · go_enter Try.func19, Try.ntmps19
    go_wp2
    go_ret
    refine ⟨?_, But.refl _ _⟩
    have e : xs ≠ ys := fun e => hlen (by rw [e])
    simp [e]
end Go.Proofs.Ytpoinhfkgnkedaa.M
