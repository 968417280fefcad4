/-
  WordEnds, plain: the two rows; numbers.
-/
import Derived.Test.YtlhegejfaihgmaaWordAlu
import Derived.Test.YtlhegejfaihgmaaWordTests
import Derived.Test.YtlhegejfaihgmaaHeap
import Derived.Test.YtlhegejfaihgmaaAlloc
import Derived.Deep.CutBlock
import Derived.Deep.RegionHeld3
import Derived.Deep.DrawnRows
namespace Go.Proofs.Ytlhegejfaihgmaa.M
open Go.RowKit
set_option linter.unusedVariables false
set_option linter.unusedSectionVars false
set_option linter.unusedSimpArgs false
attribute [local go_sem ↓] Go.wp_at_zero Go.wp_at_succ
def lsI : List Int := [0, 1, 2, 7, 31, 32, 33, 63, 64, 127, 128, 255, 256, 32767, 32768, 2147483647, 2147483648, 4294967295, 4294967296, 4294967297, 9223372036854775807, 9223372036854775808, 9223372036854775809, 18446744073709551614, 18446744073709551615]
def fsI : List Int := [0, 1, 2, 8, 16, 32, -1, 64]
theorem lsI_wf : ∀ x ∈ lsI, (Lit.int .u64 x).wf = true := by decide
theorem fsI_wf : ∀ x ∈ fsI, (Lit.int .i16 x).wf = true := by decide
theorem lsI_at {i : Nat} (h : i < 25) : ∃ x, lsI[i]? = some x ∧ (Lit.int .u64 x).wf = true :=
  ⟨_, List.getElem?_eq_getElem (show i < lsI.length from h), lsI_wf _ (List.getElem_mem _)⟩
theorem fsI_at {i : Nat} (h : i < 8) : ∃ x, fsI[i]? = some x ∧ (Lit.int .i16 x).wf = true :=
  ⟨_, List.getElem?_eq_getElem (show i < fsI.length from h), fsI_wf _ (List.getElem_mem _)⟩
/-- The two rows as they lie. -/
structure Rows2 (w0 w : World) (B1 B2 : Nat) : Prop where
  ls : w.heap[B1]? = some (.cells (lsI.map (Value.int .u64)).toArray 23)
  fs : w.heap[B2]? = some (.cells (fsI.map (Value.int .i16)).toArray 25)
  ok : Sp.Ok w0 w
section
variable {w0 w w' : World} {B1 B2 : Nat}
theorem Rows2.step (h : Rows2 w0 w B1 B2) (hk : Sp.Ok w w') : Rows2 w0 w' B1 B2 :=
  ⟨by rw [hk.block _ (lt_of h.ls)]; exact h.ls, by rw [hk.block _ (lt_of h.fs)]; exact h.fs, h.ok.trans hk⟩
theorem Rows2.drew (h : Rows2 w0 w B1 B2) : Rows2 w0 w.drew B1 B2 := h.step (Sp.Ok.drew (Sp.Ok.refl _))
theorem Rows2.al (h : Rows2 w0 w B1 B2) (o : Obj) : Rows2 w0 (w.alloc o) B1 B2 := h.step (Below.alloc (Below.refl _ _) (Nat.le_refl _) _)
theorem Rows2.drewN (h : Rows2 w0 w B1 B2) : ∀ n, Rows2 w0 (w.drewN n) B1 B2
  | 0 => h
  | n + 1 => (h.drewN n).drew
theorem Rows2.l (h : Rows2 w0 w B1 B2) {i : Nat} {x : Int} (hx : lsI[i]? = some x) : w.cell? ⟨B1, i, none⟩ = some (.int .u64 x) := by
  rw [cl_of h.ls]
  simp [hx]
theorem Rows2.f (h : Rows2 w0 w B1 B2) {i : Nat} {x : Int} (hx : fsI[i]? = some x) : w.cell? ⟨B2, i, none⟩ = some (.int .i16 x) := by
  rw [cl_of h.fs]
  simp [hx]
theorem callA (h : Rows2 w0 w B1 B2) {o f x y : Int} (b : Bool) (ho : (Lit.int .u8 o).wf = true) (hf : (Lit.int .i16 f).wf = true) (hx : (Lit.int .u64 x).wf = true) (hy : (Lit.int .u64 y).wf = true) :
    Calls Try.prog 5 #[.int .u8 o, .int .i16 f, .bool b, .int .u64 x, .int .u64 y] w fun e w' => e = .returned (.bool true) ∧ Rows2 w0 w' B1 B2 :=
  (AluW.walk o f b x y ho hf hx hy w).mono fun _ _ ⟨e, hb⟩ => ⟨e, h.step hb⟩
theorem callT (h : Rows2 w0 w B1 B2) {o x y d n : Int} (b s : Bool) (ho : (Lit.int .u8 o).wf = true) (hx : (Lit.int .u64 x).wf = true) (hy : (Lit.int .u64 y).wf = true) (hd : (Lit.int .i64 d).wf = true) (hn : (Lit.int .i64 n).wf = true) :
    Calls Try.prog 6 #[.int .u8 o, .bool b, .int .u64 x, .int .u64 y, .int .i64 d, .int .i64 n, .bool s] w fun e w' => e = .returned (.bool true) ∧ Rows2 w0 w' B1 B2 :=
  (TestsW.walk o b x y d n s ho hx hy hd hn w).mono fun _ _ ⟨e, hb⟩ => ⟨e, h.step hb⟩
end
theorem callW (w : World) {o x y d n : Int} (b s : Bool) (ho : (Lit.int .u8 o).wf = true) (hx : (Lit.int .u64 x).wf = true) (hy : (Lit.int .u64 y).wf = true) (hd : (Lit.int .i64 d).wf = true) (hn : (Lit.int .i64 n).wf = true) :
    Calls Try.prog 6 #[.int .u8 o, .bool b, .int .u64 x, .int .u64 y, .int .i64 d, .int .i64 n, .bool s] w fun e w' => e = .returned (.bool true) ∧ Sp.Ok w w' := TestsW.walk o b x y d n s ho hx hy hd hn w
theorem op_nums {m : Nat} (h : m < 32) : (Lit.int .u8 (8 * (m : Int))).wf = true ∧ (8 * (m : Int)) < 256 ∧ IntKind.u8.wrap (8 * (m : Int)) = 8 * (m : Int) ∧ (8 * (m : Int) + 8) = 8 * ((m + 1 : Nat) : Int) ∧ (0 : Int) ≤ 8 * (m : Int) := by
  refine ⟨?_, by omega, ?_, ?_, by omega⟩
  · simp only [Lit.wf, Bool.and_eq_true, decide_eq_true_eq]
    have h1 : IntKind.u8.min = 0 := rfl
    have h2 : IntKind.u8.max = 255 := rfl
    omega
  · rw [IntKind.wrap_u8]; omega
  · omega
theorem ix25 {i : Nat} (h : i < 25) : (0 : Int) ≤ (i : Int) ∧ (i : Int) < 25 ∧ wrap64 ((i : Int) + 1) = (i : Int) + 1 := by
  refine ⟨by omega, by omega, ?_⟩
  rw [wrap64]; omega
theorem ix8 {i : Nat} (h : i < 8) : (0 : Int) ≤ (i : Int) ∧ (i : Int) < 8 ∧ wrap64 ((i : Int) + 1) = (i : Int) + 1 := by
  refine ⟨by omega, by omega, ?_⟩
  rw [wrap64]; omega
theorem mod4 (i : Nat) : ∃ q d : Int, Int.tmod (i : Int) 4 = q ∧ q - 1 = d ∧ wrap64 d = d ∧ IntKind.i64.wrap d = d ∧ (Lit.int .i64 d).wf = true := by
  have h0 : (0 : Int) ≤ (i : Int) := by omega
  have h1 := Int.tmod_eq_emod_of_nonneg (b := 4) h0
  refine ⟨(i : Int) % 4, (i : Int) % 4 - 1, h1, rfl, by rw [wrap64]; omega, by rw [IntKind.wrap_i64]; omega, ?_⟩
  simp only [Lit.wf, Bool.and_eq_true, decide_eq_true_eq]
  have h2 : IntKind.i64.min = -9223372036854775808 := rfl
  have h3 : IntKind.i64.max = 9223372036854775807 := rfl
  omega
theorem five : ∀ p : Nat, p < 5 → ∃ v1 v2 : Int, (#[Value.int .i64 16, .int .i64 32, .int .i64 64, .int .i64 8, .int .i64 0] : Array Value)[p]? = some (.int .i64 v1) ∧ (#[Value.int .i64 1, .int .i64 2, .int .i64 4, .int .i64 8, .int .i64 3] : Array Value)[p]? = some (.int .i64 v2) ∧ (Lit.int .i64 v1).wf = true ∧ (Lit.int .i64 v2).wf = true
  | 0, _ => ⟨_, _, rfl, rfl, rfl, rfl⟩
  | 1, _ => ⟨_, _, rfl, rfl, rfl, rfl⟩
  | 2, _ => ⟨_, _, rfl, rfl, rfl, rfl⟩
  | 3, _ => ⟨_, _, rfl, rfl, rfl, rfl⟩
  | 4, _ => ⟨_, _, rfl, rfl, rfl, rfl⟩
  | n + 5, h => absurd h (by omega)
theorem mod5 (k : Nat) : ∃ (p : Nat) (v1 v2 : Int), Int.tmod (k : Int) 5 = (p : Int) ∧ (0 : Int) ≤ (p : Int) ∧ (p : Int) < 5 ∧ (#[Value.int .i64 16, .int .i64 32, .int .i64 64, .int .i64 8, .int .i64 0] : Array Value)[p]? = some (.int .i64 v1) ∧ (#[Value.int .i64 1, .int .i64 2, .int .i64 4, .int .i64 8, .int .i64 3] : Array Value)[p]? = some (.int .i64 v2) ∧ (Lit.int .i64 v1).wf = true ∧ (Lit.int .i64 v2).wf = true := by
  have h0 : (0 : Int) ≤ (k : Int) := by omega
  have h1 := Int.tmod_eq_emod_of_nonneg (b := 5) h0
  obtain ⟨v1, v2, h2, h3, h4, h5⟩ := five (k % 5) (by omega)
  exact ⟨k % 5, v1, v2, by rw [h1]; omega, by omega, by omega, h2, h3, h4, h5⟩
theorem ix_meas {j n : Nat} (h : j < n) : n - (intOf (.int .i64 ((j : Int) + 1))).toNat < n - (intOf (.int .i64 (j : Int))).toNat := by
  simp only [intOf]
  omega
theorem op_meas {m : Nat} (h : m < 32) : 256 - (intOf (.int .i64 (8 * ((m + 1 : Nat) : Int)))).toNat < 256 - (intOf (.int .i64 (8 * (m : Int)))).toNat := by
  simp only [intOf]
  omega
theorem eq_end {k n : Nat} (h : k ≤ n) (h2 : ¬ k < n) : k = n := by omega
end Go.Proofs.Ytlhegejfaihgmaa.M
