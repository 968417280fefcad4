/-
  trie: its head, check.
-/
import Derived.Test.YtpoinhfkgnkedaaWay
import Derived.BigQuiet
import Derived.Deep.CutBlock
import Derived.Deep.DeepCutAuto
import Derived.Deep.RegionHeld3
import Derived.Deep.DrawnRows
import Derived.Deep.RegionLaw
import Derived.BigRegion
namespace Go.Proofs.Ytpoinhfkgnkedaa.M
open Go.RowKit Go.Shelf
set_option linter.unusedVariables false
set_option linter.unusedSectionVars false
set_option linter.unusedSimpArgs false
def HeadW (w : World) (P root U Rm : Nat) (k : Int) (K V N : Nat) : Prop := w.heap[P]? = some (.cells #[.int .u8 k, .int .i64 K, .int .i64 V, .int .i64 N, .pointer (some ⟨root, 0, none⟩), .slice (some ⟨U, 0, none⟩) N N, .slice (some ⟨Rm, 0, none⟩) N N] 59)
/-- A receiver that nobody made. -/
def NoOne (w : World) (p : Value) : Prop := p = .pointer none ∨ ∃ P, p = .pointer (some ⟨P, 0, none⟩) ∧ w.cell? ⟨P, 4, none⟩ = some (.pointer none)
theorem NoOne.but {w w' : World} {p : Value} (h : NoOne w p) (hb : But [] w w') : NoOne w' p := by
  rcases h with rfl | ⟨P, rfl, h⟩
  · exact .inl rfl
  · exact .inr ⟨P, rfl, cell_but hb h (by simp)⟩
theorem check_no {w : World} {p : Value} (h : NoOne w p) (a : Option Addr) (n c : Nat) : Calls Try.prog 34 #[p, .slice a n c] w fun e w' => e = .returned (.int .i64 1) ∧ w = w' := by
  rcases h with rfl | ⟨P, rfl, h⟩
  · go_enter Try.func34, Try.ntmps34
    go_wp2_with fail
    go_ret
    exact ⟨rfl, rfl⟩
  · go_enter Try.func34, Try.ntmps34
    go_wp2_with fail
    go_ret
    exact ⟨rfl, rfl⟩
theorem check_len {w : World} {P root U Rm : Nat} {k : Int} {K V N : Nat} (h : HeadW w P root U Rm k K V N) (a : Option Addr) (n c : Nat) (hn : n ≠ K) : Calls Try.prog 34 #[.pointer (some ⟨P, 0, none⟩), .slice a n c] w fun e w' => e = .returned (.int .i64 2) ∧ w = w' := by
  have d4 : w.cell? ⟨P, 4, none⟩ = some (.pointer (some ⟨root, 0, none⟩)) := cl_of h 4
  have d1 : w.cell? ⟨P, 1, none⟩ = some (.int .i64 K) := cl_of h 1
  have hne : ((n : Int) == (K : Int)) = false := by rw [beq_eq_false_iff_ne]; omega
  clear h
  go_enter Try.func34, Try.ntmps34
  go_wp2_with fail
  go_ret
  exact ⟨rfl, rfl⟩
theorem check_w {w : World} {P root U Rm : Nat} {k : Int} {K V N : Nat} (h : HeadW w P root U Rm k K V N) (ad : Addr) (cp : Nat) (ks : List Int) (hn : ks.length = K) (hK : 4 ≤ K ∧ K ≤ 1000000000) (hs : Sees w (.slice (some ad) ks.length cp) (u8s ks)) (hb : ByteL ks) :
    Calls Try.prog 34 #[.pointer (some ⟨P, 0, none⟩), .slice (some ad) ks.length cp] w fun e w' => e = .returned (.int .i64 (if leV (ks.take 4) > 8 * ((K : Int) - 4) then 2 else 0)) ∧ But [] w w' := by
  subst hn
  have d4 : w.cell? ⟨P, 4, none⟩ = some (.pointer (some ⟨root, 0, none⟩)) := cl_of h 4
  have d1 : w.cell? ⟨P, 1, none⟩ = some (.int .i64 ks.length) := cl_of h 1
  have hne : ((ks.length : Int) == (ks.length : Int)) = true := by rw [beq_iff_eq]
  have HM : Hid (∀ wx, But [] w wx → Calls Try.prog 45 #[.slice (some ad) ks.length cp] wx fun e w' => e = .returned (.int .i64 (leV (ks.take 4))) ∧ But [] wx w') := Lib.hid fun wx hx => many_c ad cp ks wx (hs.but hx (by simp)) hb (by omega)
  have HS0 : Hid (∀ wx, But [] w wx → wx.cell? ⟨P, 1, none⟩ = some (.int .i64 ks.length)) := Lib.hid fun wx hx => cell_but hx d1 (by simp)
  have hw1 : IntKind.i64.wrap ((ks.length : Int) - 4) = (ks.length : Int) - 4 := by rw [IntKind.wrap_i64]; omega
  have hw2 : IntKind.i64.wrap (8 * ((ks.length : Int) - 4)) = 8 * ((ks.length : Int) - 4) := by rw [IntKind.wrap_i64]; omega
  have hv1 : wrap64 ((ks.length : Int) - 4) = (ks.length : Int) - 4 := by rw [wrap64]; omega
  have hv2 : wrap64 (8 * ((ks.length : Int) - 4)) = 8 * ((ks.length : Int) - 4) := by rw [wrap64]; omega
  clear h hs hb
  by_cases hg : leV (ks.take 4) > 8 * ((ks.length : Int) - 4)
  · have hlt : 8 * ((ks.length : Int) - 4) < leV (ks.take 4) := hg
    rw [if_pos hg]
    clear hg
    generalize leV (ks.take 4) = m at *
    go_enter Try.func34, Try.ntmps34
    go_upto_region 4 with fail
    go_region_held3 (fun wx => wx.cell? ⟨P, 1, none⟩ = some (.int .i64 ks.length)) (first | assumption | go_keep) (first | (go_at_call 45; (with_reducible refine (HM.out _ (by first | exact But.refl _ _ | exact (But.refl _ _).drew)).mono ?_); rintro e w7 ⟨rfl, h7⟩; have hk7 := HS0.out w7 ((by first | exact But.refl _ _ | exact (But.refl _ _).drew : But [] w _).trans h7 (by simp)); have H7 : Hid (But [] w w7) := Lib.hid ((by first | exact But.refl _ _ | exact (But.refl _ _).drew : But [] w _).trans h7 (by simp)); clear h7))
    all_goals
      repeat (first | go_values | go_skip | go_guarded | go_step | go_upon)
    all_goals go_ret
    all_goals exact ⟨rfl, H7.out⟩
  · have hlt : leV (ks.take 4) ≤ 8 * ((ks.length : Int) - 4) := by omega
    rw [if_neg hg]
    clear hg
    generalize leV (ks.take 4) = m at *
    go_enter Try.func34, Try.ntmps34
    go_upto_region 4 with fail
    go_region_held3 (fun wx => wx.cell? ⟨P, 1, none⟩ = some (.int .i64 ks.length)) (first | assumption | go_keep) (first | (go_at_call 45; (with_reducible refine (HM.out _ (by first | exact But.refl _ _ | exact (But.refl _ _).drew)).mono ?_); rintro e w7 ⟨rfl, h7⟩; have hk7 := HS0.out w7 ((by first | exact But.refl _ _ | exact (But.refl _ _).drew : But [] w _).trans h7 (by simp)); have H7 : Hid (But [] w w7) := Lib.hid ((by first | exact But.refl _ _ | exact (But.refl _ _).drew : But [] w _).trans h7 (by simp)); clear h7))
    all_goals
      repeat (first | go_values | go_skip | go_guarded | go_step | go_upon)
    all_goals go_ret
    all_goals exact ⟨rfl, H7.out⟩
end Go.Proofs.Ytpoinhfkgnkedaa.M
