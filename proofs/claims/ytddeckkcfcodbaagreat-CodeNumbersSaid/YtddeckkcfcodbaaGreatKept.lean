/-
  The contracts of hatchwaykit.KeptBytes, OverBytes.
-/
import Derived.Test.YtddeckkcfcodbaaGreatLent
import Derived.BigQuiet
import Derived.Deep.QuietTactic
namespace Go.Proofs.YtddeckkcfcodbaaGreat.M
open Go.RowKit
set_option linter.unusedVariables false
set_option linter.unusedSectionVars false
set_option linter.unusedSimpArgs false
set_option maxRecDepth 100000 in
set_option maxHeartbeats 2000000 in
theorem kept (v s : Value) (xs : List Value) (w : World) (hv : Lent w v xs) (hs : Sees w s xs) (hx : IsBytes xs) (hl : xs.length ≤ 140737488351232) :
    Calls Tryz.prog 29 #[v, s] w fun e w' => e = .returned (.bool true) ∧ But [] w w' := by
  obtain ⟨g, rfl, ho⟩ := hv
  obtain ⟨a, c, rfl, hat⟩ := sees_shape hs
  have hcell : ∀ j u, (xs ++ marks 1 12)[j]? = some u → w.cell? ⟨g, j, none⟩ = some u := fun j u hj => by
    have := World.ownsRow.cells ho (g := g) rfl j u hj
    rw [add_at, Nat.zero_add] at this
    exact this
  have HC := Lib.hid hcell
  have HAT := Lib.hid hat
  have HX := Lib.hid hx
  clear ho hs hat hcell hx
  go_enter Tryz.func29, Tryz.ntmps29
  go_wp2_with fail
  go_loopw [6] (fun i wr => ∃ k : Nat, k ≤ xs.length + 12 ∧ i = .int .i64 k ∧ But [] w wr) (fun i _ => xs.length + 12 - (intOf i).toNat)
  case atStart => exact ⟨0, by omega, rfl, But.refl _ _⟩
  case round =>
    obtain ⟨k, hk, rfl, hb⟩ := hrel
    have HB := Lib.hid hb
    have hk0 : (0 : Int) ≤ k := by omega
    by_cases hlt : k < xs.length
    · obtain ⟨u, hu⟩ : ∃ u, xs[k]? = some u := ⟨_, List.getElem?_eq_getElem hlt⟩
      obtain ⟨n, rfl⟩ := HX.out u (List.mem_of_getElem? hu)
      obtain ⟨ad, rfl, hc⟩ := HAT.out k _ hu
      have c1 : wr.cell? ⟨g, k, none⟩ = some (.int .u8 n) := cell_but hb (HC.out k _ (by rw [List.getElem?_append_left hlt]; exact hu)) (by simp)
      have c2 : wr.cell? (ad.add k) = some (.int .u8 n) := cell_but hb hc (by simp)
      have d1 : decide (k < xs.length) = true := by simpa using hlt
      have d2 : decide (xs.length ≤ k) = false := by simpa using hlt
      have i1 : (k : Int) < xs.length := by omega
      have i2 : (k : Int) < (xs.length : Int) + 12 := by omega
      clear hb hu hc
      go_wp2_with fail
      go_quiet (fail)
      go_wp2_with fail
      go_roundw
      case rel => exact ⟨k + 1, by omega, by go_num, HB.out.drewN _⟩
      case measure => simp [intOf]; omega
    · by_cases hlt2 : k < xs.length + 12
      · have hu : (xs ++ marks 1 12)[k]? = some (.int .u8 (mb 1 ((k : Int) - xs.length))) := by
          rw [List.getElem?_append_right (by omega), marks_at (by omega)]
          congr 3
          omega
        have c1 : wr.cell? ⟨g, k, none⟩ = some (.int .u8 (mb 1 ((k : Int) - xs.length))) := cell_but hb (HC.out k _ hu) (by simp)
        have d1 : decide (k < xs.length) = false := by simpa using hlt
        have d2 : decide (xs.length ≤ k) = true := by simp; omega
        have i2 : (k : Int) < (xs.length : Int) + 12 := by omega
        have s1 : IntKind.i64.wrap ((k : Int) - xs.length) = (k : Int) - xs.length := IntWalk.i64_in _ (by omega)
        clear hb hu
        go_wp2_with fail
        go_quiet ((go_at_call 43; exact Calls.quiet_of_same (markB' _ _ _)))
        go_wp2_with fail
        go_roundw
        case rel => exact ⟨k + 1, by omega, by go_num, HB.out.drewN _⟩
        case measure => simp [intOf]; omega
      · obtain rfl : k = xs.length + 12 := by omega
        go_wp2_with fail
        go_ret
        exact ⟨rfl, hb⟩
end Go.Proofs.YtddeckkcfcodbaaGreat.M
