/-
  Plain: what RefineNumbers lays.
-/
import Derived.Test.YtmbmmcippglfoaaRowS
import Derived.Test.YtmbmmcippglfoaaBrA
import Derived.Test.YtmbmmcippglfoaaRfG
namespace Go.Proofs.Ytmbmmcippglfoaa.M
open Go.RowKit
set_option linter.unusedVariables false
set_option linter.unusedSectionVars false
set_option linter.unusedSimpArgs false
def numA (i : Nat) : Nat := match i with | 0 => 0 | 1 => 1 | 2 => 7 | 3 => 8 | 4 => 2147483647 | 5 => 2147483648 | 6 => 4294967295 | 7 => 9223372036854775807 | 8 => 9223372036854775808 | _ => 18446744073709551615
def numCells : Array Value := #[.int .u64 0, .int .u64 1, .int .u64 7, .int .u64 8, .int .u64 2147483647, .int .u64 2147483648, .int .u64 4294967295, .int .u64 9223372036854775807, .int .u64 9223372036854775808, .int .u64 18446744073709551615]
theorem num_cell {W : World} {k i : Nat} {t : TypeId} (h : W.heap[k]? = some (.cells numCells t)) (hi : i < 10) : W.cell? ⟨k, i, none⟩ = some (.int .u64 (numA i : Int)) := by
  match i, hi with
  | 0, _ => exact cl_of h 0
  | 1, _ => exact cl_of h 1
  | 2, _ => exact cl_of h 2
  | 3, _ => exact cl_of h 3
  | 4, _ => exact cl_of h 4
  | 5, _ => exact cl_of h 5
  | 6, _ => exact cl_of h 6
  | 7, _ => exact cl_of h 7
  | 8, _ => exact cl_of h 8
  | 9, _ => exact cl_of h 9
theorem num_lt {i : Nat} (h : i < 10) : numA i < 18446744073709551616 := by
  match i, h with
  | 0, _ => decide
  | 1, _ => decide
  | 2, _ => decide
  | 3, _ => decide
  | 4, _ => decide
  | 5, _ => decide
  | 6, _ => decide
  | 7, _ => decide
  | 8, _ => decide
  | 9, _ => decide
def sA (i k : Nat) : Sc := ⟨⟨0, 18446744073709551615⟩, ⟨numA i, numA k, -9223372036854775808, 9223372036854775807⟩⟩
def sB (i k : Nat) : Sc := ⟨⟨numA i, uand (unot (numA i)) (numA k)⟩, ⟨0, 18446744073709551615, -9223372036854775808, 9223372036854775807⟩⟩
def sC (i k : Nat) : Sc := ⟨⟨0, 18446744073709551615⟩, ⟨0, 18446744073709551615, min (toS (numA i)) (toS (numA k)), max (toS (numA i)) (toS (numA k))⟩⟩
set_option maxRecDepth 100000 in
theorem num_some : ∀ k : Fin 10, ∀ i : Fin 10, i.val < k.val → (ofT (sA i.val k.val)).isSome = true ∧ (ofT (sB i.val k.val)).isSome = true ∧ (ofT (sC i.val k.val)).isSome = true := by decide +kernel
theorem sA_rg {i k : Nat} (hi : i < 10) (hk : k < 10) : Rg (sA i k) := ⟨by simp [sA], by simp [sA], num_lt hi, num_lt hk, by simp [sA], by simp [sA]⟩
theorem sB_rg {i k : Nat} (hi : i < 10) (hk : k < 10) : Rg (sB i k) := ⟨num_lt hi, uand_lt _ _, by simp [sB], by simp [sB], by simp [sB], by simp [sB]⟩
theorem sC_rg {i k : Nat} (hi : i < 10) (hk : k < 10) : Rg (sC i k) := by
  have h1 := wrapI_bd (numA i : Int); have h2 := wrapI_bd (numA k : Int)
  refine ⟨by simp [sC], by simp [sC], by simp [sC], by simp [sC], ?_, ?_⟩
  · show -9223372036854775808 ≤ min (toS (numA i)) (toS (numA k))
    unfold toS; omega
  · show max (toS (numA i)) (toS (numA k)) ≤ 9223372036854775807
    unfold toS; omega
theorem of_rg {s : Sc} (hr : Rg s) (h : (ofT s).isSome = true) : Rg ((ofT s).getD zeroSc) := by
  cases ho : ofT s with
  | none => rw [ho] at h; cases h
  | some r => exact (ofT_some hr ho).1.rg
/-- The list, as it grows. -/
def KL (w2 W : World) (v : Value) (l : List Sc) (n : Nat) : Prop := OwnS W 28 v l ∧ l.length ≤ n ∧ (∀ x ∈ l, Rg x) ∧ (∀ b, v.ownBlock = some b → w2.heap.size ≤ b) ∧ But [] w2 W
theorem KL.but {w2 W W' : World} {v : Value} {l : List Sc} {n : Nat} (h : KL w2 W v l n) (hb : But [] W W') : KL w2 W' v l n := ⟨h.1.but hb (by simp), h.2.1, h.2.2.1, h.2.2.2.1, h.2.2.2.2.trans hb (by simp)⟩
theorem KL.mono {w2 W : World} {v : Value} {l : List Sc} {n m : Nat} (h : KL w2 W v l n) (hm : n ≤ m) : KL w2 W v l m := ⟨h.1, Nat.le_trans h.2.1 hm, h.2.2⟩
theorem KL.app {w2 W W' : World} {v v' : Value} {l news : List Sc} {n : Nat} (h : KL w2 W v l n) (ha : AppS W W' 28 v v' l news) (hn : ∀ x ∈ news, Rg x) : KL w2 W' v' (l ++ news) (n + news.length) := by
  obtain ⟨h1, h2, h3, h4, h5⟩ := h
  obtain ⟨a1, a2⟩ := ha
  refine ⟨a1, by rw [List.length_append]; omega, fun x hx => ?_, ?_, ?_⟩
  · rcases List.mem_append.1 hx with hx | hx
    · exact h3 x hx
    · exact hn x hx
  · intro b hb
    rcases a2 with ⟨a, cap, rfl, rfl, hb2⟩ | ⟨e, hb2⟩
    · refine h4 b ?_
      cases a with
      | none => simp [Value.ownBlock] at hb
      | some a => simpa [Value.ownBlock] using hb
    · rw [e] at hb; cases hb; exact h5.size
  · rcases a2 with ⟨a, cap, rfl, rfl, hb2⟩ | ⟨e, hb2⟩
    · exact h5.trans hb2 (fun x hx => .inr (h4 x (by simpa using hx)))
    · exact h5.trans hb2 (by simp)
theorem src_S {P : Program} (hk : P.underlying 31 = some (.slice 28)) {i0 : TypeInfo} (hz1 : i0.size = 6) (w : World) (xs : List Sc) (cs : Array Value) (hc : cs = (flatS xs).toArray) (W : World) (hw : W.heap[w.heap.size]? = some (.cells cs 28)) (n : Nat) (hn : xs.length = n) : Src P i0.size 31 (.slice (some ⟨w.heap.size, 0, none⟩) n n) xs.length (flatS xs) W := by
  rw [hz1, hn]
  refine Src.ofSlice _ hk ⟨w.heap.size, 0, none⟩ n n _ (by rw [flatS_len, hn]) (fun j u hj => ?_) (flatS_one _)
  rw [add_at, Nat.zero_add, cl_of hw, hc, List.getElem?_toArray]
  exact hj
theorem app_fitsS {n k : Nat} (h : n ≤ 1024) (hk : k ≤ 3) : n + k ≤ maxLen ∧ (n + k) * 48 ≤ 140737488355328 := by
  unfold maxLen
  omega
end Go.Proofs.Ytmbmmcippglfoaa.M
