/-
  trie.Keys$1: the comparison of two keys, whole.
-/
import Derived.Test.YtpoinhfkgnkedaaTrCmp
import Derived.Test.YtpoinhfkgnkedaaDrawn
import Derived.Test.YtpoinhfkgnkedaaSortL
namespace Go.Proofs.Ytpoinhfkgnkedaa.M
open Go.RowKit Go.Shelf Go.Sort Go.Lib
set_option linter.unusedVariables false
set_option linter.unusedSectionVars false
set_option linter.unusedSimpArgs false
theorem dbut_but {L : List Nat} {w w' : World} (h : D.But L w w') : But L w w' := ⟨h.os, h.tape, h.output, h.size, h.block⟩
theorem dbut_grow {w w' : World} (h : D.But [] w w') : ∃ q os, w' = grow (w.drewN q) os := by
  refine ⟨w'.drawn - w.drawn, w'.heap.extract w.heap.size w'.heap.size, ?_⟩
  have h1 := h.os
  have h2 := h.tape
  have h3 := h.output
  have h4 := h.drawn
  have h5 := h.size
  have hh : w'.heap = w.heap ++ w'.heap.extract w.heap.size w'.heap.size := by
    apply Array.ext_getElem?
    intro i
    by_cases hi : i < w.heap.size
    · rw [Array.getElem?_append_left hi, h.block i hi (by simp)]
    · rw [Array.getElem?_append_right (by omega), Array.getElem?_extract]
      by_cases hi2 : i < w'.heap.size
      · rw [if_pos (by omega)]
        congr 1; omega
      · rw [if_neg (by omega), Array.getElem?_eq_none (by omega)]
  cases w'
  cases w
  simp only [grow, World.drewN] at *
  subst h1 h2 h3
  congr 1
  omega
theorem many_d (ad : Addr) (c0 : Nat) (ks : List Int) (w : World) (hs : Sees w (.slice (some ad) ks.length c0) (u8s ks)) (hr : ByteL ks) (h4 : 4 ≤ ks.length) : Calls Try.prog 45 #[.slice (some ad) ks.length c0] w fun e w' => e = .returned (.int .i64 (leV (ks.take 4))) ∧ D.But [] w w' :=
  callsIn_wide.1 (D.many_w ad c0 ks w hs hr h4)
def cmpI (x y : Int) : Int := if x < y then -1 else if y < x then 1 else 0
def cfK (a b : List Int) : Int := if cmpI (leV (a.take 4)) (leV (b.take 4)) = 0 then Lib.compareBytes (toU8 a) (toU8 b) else cmpI (leV (a.take 4)) (leV (b.take 4))
set_option maxRecDepth 100000 in
theorem cmpK_c (ad1 ad2 : Addr) (c1 c2 : Nat) (a b : List Int) (w : World) (hsa : Sees w (.slice (some ad1) a.length c1) (u8s a)) (hsb : Sees w (.slice (some ad2) b.length c2) (u8s b)) (hba : ByteL a) (hbb : ByteL b) (h4a : 4 ≤ a.length) (h4b : 4 ≤ b.length) :
    Calls Try.prog 42 #[.slice (some ad1) a.length c1, .slice (some ad2) b.length c2] w fun e w' => e = .returned (.int .i64 (cfK a b)) ∧ ∃ q os, w' = grow (w.drewN q) os := by
  have HA := Lib.hid (many_d ad1 c1 a w hsa hba h4a)
  have HB : Hid (∀ wx, D.But [] w wx → Calls Try.prog 45 #[.slice (some ad2) b.length c2] wx fun e w' => e = .returned (.int .i64 (leV (b.take 4))) ∧ D.But [] wx w') := Lib.hid fun wx hx => many_d ad2 c2 b wx (hsb.but (dbut_but hx) (by simp)) hbb h4b
  have HC : Hid (∀ wx, D.But [] w wx → Calls Try.prog 46 #[.slice (some ad1) a.length c1, .slice (some ad2) b.length c2] wx fun e w' => e = .returned (.int .i64 (Lib.compareBytes (toU8 a) (toU8 b))) ∧ wx = w') := Lib.hid fun wx hx => compare_c (some ad1) (some ad2) c1 c2 a b wx (hsa.but (dbut_but hx) (by simp)) (hsb.but (dbut_but hx) (by simp))
  have HI : Hid (∀ wx, Calls Try.prog 44 #[.int .i64 (leV (a.take 4)), .int .i64 (leV (b.take 4))] wx fun e w' => e = .returned (.int .i64 (cmpI (leV (a.take 4)) (leV (b.take 4)))) ∧ wx = w') := Lib.hid fun wx => cmpInt_c _ _ _
  unfold cfK
  clear hsa hsb hba hbb h4a h4b
  generalize leV (a.take 4) = x at *
  generalize leV (b.take 4) = y at *
  generalize cmpI x y = m at *
  generalize Lib.compareBytes (toU8 a) (toU8 b) = z at *
  generalize a.length = na at *
  generalize b.length = nb at *
  go_enter Try.func42, Try.ntmps42
  go_wp2_with fail
  refine HA.out.mono ?_
  rintro e w1 ⟨rfl, hb1⟩
  have HB1 := Lib.hid hb1
  clear hb1
  go_wp2_with fail
  refine (HB.out _ HB1.out).mono ?_
  rintro e w2 ⟨rfl, hb2⟩
  have HB2 := Lib.hid (HB1.out.trans hb2 (by simp))
  clear hb2
  go_wp2_with fail
  refine (HI.out _).mono ?_
  rintro e w3 ⟨rfl, rfl⟩
  go_wp2_with fail
  refine (HC.out _ HB2.out).mono ?_
  rintro e w3 ⟨rfl, rfl⟩
  go_wp2_with fail
  refine (or_c m z w2.heap.size _ (cl_of (al_at _ _) 0) (cl_of (al_at _ _) 1)).mono ?_
  rintro e w3 ⟨rfl, rfl⟩
  go_wp2_with fail
  all_goals
    go_ret
    exact ⟨rfl, dbut_grow (HB2.out.alloc _)⟩
end Go.Proofs.Ytpoinhfkgnkedaa.M
