/-
  word.Test; the comparisons of RefineSound.
-/
import Derived.Test.YtmbmmcippglfoaaTstHi
import Derived.Test.YtmbmmcippglfoaaTstLo
import Derived.Test.YtmbmmcippglfoaaSoP
namespace Go.Proofs.Ytmbmmcippglfoaa.M
open Go.RowKit Go.Shelf
set_option linter.unusedVariables false
set_option linter.unusedSectionVars false
set_option linter.unusedSimpArgs false
theorem but_below {w w' : World} (h : Below w.heap.size w w') : But [] w w' := ⟨h.os, h.tape, h.output, h.size, fun k hk _ => h.block k hk⟩
theorem wtest_c (op x y : Nat) (wide t : Bool) (ho : op < 256) (hx : x < 18446744073709551616) (hy : y < 18446744073709551616) (ht : testW op wide x y = some t) (w : World) : Calls Try.prog 17 #[.int .u8 (op : Int), .bool wide, .int .u64 (x : Int), .int .u64 (y : Int)] w fun e w' => e = .returned (.tuple #[.bool t, .bool true]) ∧ But [] w w' := by
  cases wide with
  | true =>
    have hc := fun w => Tst64.any (op : Int) (x : Int) (y : Int) w (by omega) (by omega) (by omega) (by omega) (by omega) (by omega)
    have e : Sp.tst (Sp.cmpI (x : Int) (y : Int)) (Sp.cmpI (wrap64 x) (wrap64 y)) (bits .and .u64 x y) op = some t := ht
    rw [e] at hc
    simp only [Sp.resB] at hc
    have HC := Lib.hid hc
    clear hc e ht ho hx hy
    go_enter Try.func17, Try.ntmps17
    go_wp2_with fail
    refine (HC.out _).mono ?_
    rintro e w8 ⟨rfl, hb⟩
    have HB := Lib.hid (but_below hb)
    clear hb
    go_wp2_with fail
    go_ret2
    exact ⟨rfl, HB.out⟩
  | false =>
    have hc := fun w => Tst32.any (op : Int) ((x : Int) % 4294967296) ((y : Int) % 4294967296) w (by omega) (by omega) (by omega) (by omega) (by omega) (by omega)
    have e : Sp.tst (Sp.cmpI ((x : Int) % 4294967296) ((y : Int) % 4294967296)) (Sp.cmpI (wrap32 ((x : Int) % 4294967296)) (wrap32 ((y : Int) % 4294967296))) (bits .and .u32 ((x : Int) % 4294967296) ((y : Int) % 4294967296)) op = some t := ht
    rw [e] at hc
    simp only [Sp.resB] at hc
    have HC := Lib.hid hc
    clear hc e ht ho hx hy
    go_enter Try.func17, Try.ntmps17
    go_wp2_with fail
    refine (HC.out _).mono ?_
    rintro e w8 ⟨rfl, hb⟩
    have HB := Lib.hid (but_below hb)
    clear hb
    go_wp2_with fail
    go_ret2
    exact ⟨rfl, HB.out⟩
def cmpCells : Array Value := #[.int .u8 16, .int .u8 32, .int .u8 48, .int .u8 64, .int .u8 80, .int .u8 96, .int .u8 112, .int .u8 160, .int .u8 176, .int .u8 192, .int .u8 208]
theorem comparisons_c (w : World) : Calls Try.prog 16 #[] w fun e w' => e = .returned (.slice (some ⟨w.heap.size, 0, none⟩) 11 11) ∧ w' = w.alloc (.cells cmpCells 5) := by
  go_enter Try.func16, Try.ntmps16
  go_wp2
  go_ret
  exact ⟨rfl, rfl⟩
theorem cmp_cell {W : World} {k i : Nat} {t : TypeId} (h : W.heap[k]? = some (.cells cmpCells t)) (hi : i < 11) : W.cell? ⟨k, i, none⟩ = some (.int .u8 (cmpA i : Int)) := by
  match i, hi with
  | 0, _ => exact cl_of h 0
  | 1, _ => exact cl_of h 1
  | 2, _ => exact cl_of h 2
  | 3, _ => exact cl_of h 3
  | 4, _ => exact cl_of h 4
  | 5, _ => exact cl_of h 5
  | 6, _ => exact cl_of h 6
  | 7, _ => exact cl_of h 7
  | 8, _ => exact cl_of h 8
  | 9, _ => exact cl_of h 9
  | 10, _ => exact cl_of h 10
end Go.Proofs.Ytmbmmcippglfoaa.M
