/-
  Plain: bytes that come in, as numbers in their range; a stack whose bytes were written tells them.
-/
import Derived.Test.YtmaeiifhmngllaaNew
import Derived.Test.YtmaeiifhmngllaaCellIn
import Derived.BigFrame
namespace Go.Proofs.Ytmaeiifhmngllaa.M
open Go.RowKit
set_option linter.unusedVariables false
set_option linter.unusedSectionVars false
set_option linter.unusedSimpArgs false
theorem wf_u8 {z : Int} (h : (Lit.int .u8 z).wf = true) : 0 ≤ z ∧ z ≤ 255 := by
  simp only [Lit.wf, Bool.and_eq_true, decide_eq_true_eq] at h
  exact ⟨h.1, Int.le_trans h.2 (by decide)⟩
theorem wf_i64 {n : Int} (h : (Lit.int .i64 n).wf = true) : -9223372036854775808 ≤ n ∧ n ≤ 9223372036854775807 := by
  simp only [Lit.wf, Bool.and_eq_true, decide_eq_true_eq] at h
  exact ⟨Int.le_trans (by decide) h.1, Int.le_trans h.2 (by decide)⟩
section
variable {H : Type} {enc : TypeId × Value → H} {P : Program} {w : World}
theorem bytes8_of {t e : TypeId} (ht : P.underlying t = some (.slice e)) (he : P.underlying e = some (.int .u8)) (hc : P.cellsOf e = 1) (h1 : P.bytesOf e = 1) {base : Nat} {v : Value} {d : DataW H} {ps : List MemPlace}
    (hval : Value.okWide P w .any base t v) (h : DataW.Trod enc P w 0 (fun _ => true) true t v d ps) (hsz : ∀ n ∈ d.weights P t, n ≤ reachBytes) :
    ∃ l : List Int, (Sees w v (u8s l) ∧ ByteL l) ∧ l.length ≤ 140737488351232 := by
  obtain ⟨a1, len, cap, rfl⟩ := WideShapes.okWide_slice ht hval
  obtain ⟨fuel, hf⟩ := h
  rcases ChangeShapes.open_ints ht he hc hf with ⟨hcs, hx⟩ | ⟨a, len', cap', zs, hcs, _, hl, hm, hz, hx, hcell, hwz⟩
  · simp [Value.cells] at hcs
    obtain ⟨rfl, rfl, rfl⟩ := hcs
    exact ⟨[], ⟨.inl ⟨rfl, rfl⟩, (fun u hu => by cases hu)⟩, Nat.zero_le _⟩
  · simp [Value.cells] at hcs
    obtain ⟨rfl, rfl, rfl⟩ := hcs
    simp only [Prod.mk.injEq] at hx
    obtain ⟨rfl, rfl⟩ := hx
    simp only [if_true] at hz
    have hw := hsz (cap * P.bytesOf e) (by
      simp only [DataW.weights, ht, List.mem_cons]
      left
      simp only [ChangeShapes.lits, List.length_map, List.length_take, List.length_drop, hz]
      congr 1
      omega)
    rw [h1] at hw
    have hr : reachBytes = 140737488351232 := rfl
    refine ⟨zs.take len, ⟨.inr ⟨a, cap, ?_, ?_, fun j u hu => ?_⟩, fun z hz => ?_⟩, ?_⟩
    · simp [u8s]; omega
    · simp [u8s]; omega
    · unfold u8s at hu
      rw [List.getElem?_map] at hu
      obtain ⟨z, hz2, rfl⟩ := Option.map_eq_some_iff.1 hu
      have hj : j < zs.length := by
        have := (List.getElem?_eq_some_iff.1 hz2).1
        simp at this
        omega
      rw [hcell j hj]
      rw [List.getElem?_take] at hz2
      split at hz2
      · simp [List.getD, hz2]
      · cases hz2
    · exact wf_u8 (hwz z (List.mem_of_mem_take hz))
    · simp; omega
end
section
variable {H : Type} {enc : TypeId × Value → H} {w : World}
set_option maxRecDepth 100000 in
theorem bytes8_in {base : Nat} {v : Value} {d : DataW H} {ps : List MemPlace} (hval : Value.okWide Try.prog w .any base 37 v) (h : DataW.Trod enc Try.prog w 0 (fun _ => true) true 37 v d ps) (hsz : ∀ n ∈ d.weights Try.prog 37, n ≤ reachBytes) :
    ∃ l : List Int, (Sees w v (u8s l) ∧ ByteL l) ∧ l.length ≤ 140737488351232 :=
  bytes8_of Try.underlying37 Try.underlying5 (by kernel_rfl) (by kernel_rfl) hval h hsz
end
theorem s0_bit (a : Nat) : S0.bit a = false := bit_zero _
/-- Behind a write into a new stack. -/
theorem wrote {o : Nat} {bs : List Int} (hb : ByteL bs) (hon : o + bs.length ≤ 512) : WrSpec S0 (wrL S0 o bs (List.range (cntP o bs.length))) o bs.length bs.length (cntP o bs.length) bs := wr_all s0_inv hb hon
theorem wrote_on {o n k : Nat} {bs : List Int} {S : Stk} {c : Nat} (h : WrSpec S0 S o bs.length bs.length c bs) (hon : o + bs.length ≤ 512) (hk : k + n ≤ bs.length) : bitsOn S (o + k) n = true :=
  bitsOn_iff.2 fun i hi => by
    rw [h.bit _ (by omega), decide_eq_true (by omega)]
    rfl
theorem wrote_row {o n k : Nat} {bs : List Int} {S : Stk} {c : Nat} (h : WrSpec S0 S o bs.length bs.length c bs) (hk : k + n ≤ bs.length) : rowB S (o + k) n = (bs.drop k).take n := by
  apply List.ext_getElem?
  intro i
  unfold rowB
  rw [List.getElem?_map]
  by_cases hi : i < n
  · rw [List.getElem?_range hi, List.getElem?_take_of_lt hi, List.getElem?_drop, List.getElem?_eq_getElem (by omega)]
    simp only [Option.map_some]
    rw [h.byte, if_pos (by omega), show o + k + i - o = k + i by omega, List.getD_eq_getElem?_getD, List.getElem?_eq_getElem (by omega)]
    rfl
  · rw [List.getElem?_eq_none (by simp; omega), List.getElem?_eq_none (by simp; omega)]
    rfl
theorem wrote_none {o : Nat} {bs : List Int} {S : Stk} {c : Nat} (h : WrSpec S0 S o bs.length bs.length c bs) (k : Nat) : S.whole k = c0 := by
  rw [h.whole]
  simp [S0, c0]
theorem wrote_at {o : Nat} {bs : List Int} {S : Stk} {c : Nat} (h : WrSpec S0 S o bs.length bs.length c bs) (off n : Int) : wholeAt S off n = false := by
  unfold wholeAt
  rw [wrote_none h]
  exact decide_eq_false (fun h => h.2.2 rfl)
theorem wrote_loadE {o n k : Nat} {bs : List Int} {S : Stk} {c : Nat} (h : WrSpec S0 S o bs.length bs.length c bs) (hon : o + bs.length ≤ 512) (hk : k + n ≤ bs.length) (hn : sizeB n = true) : loadE S ((o : Int) + k) n = 0 := by
  have hE : checkE ((o : Int) + k) n (sizeB n) = 0 := by
    rw [hn]
    unfold checkE
    rw [if_pos rfl, if_pos (by omega)]
  unfold loadE
  rw [if_neg (by simp [hE]), if_pos (.inr (by rw [show ((o : Int) + k).toNat = o + k by omega, show (n : Int).toNat = n from rfl]; exact wrote_on h hon hk))]
theorem wrote_loadV {o n k : Nat} {bs : List Int} {S : Stk} {c : Nat} (h : WrSpec S0 S o bs.length bs.length c bs) (hon : o + bs.length ≤ 512) (hk : k + n ≤ bs.length) (hn : sizeB n = true) : loadV S ((o : Int) + k) n = ⟨1, leV ((bs.drop k).take n), 0, 0⟩ := by
  unfold loadV
  rw [wrote_loadE h hon hk hn, if_neg (by decide), if_neg (by rw [wrote_at h]; decide), show ((o : Int) + k).toNat = o + k by omega, show (n : Int).toNat = n from rfl, wrote_row h hk]
theorem wrote_readE {o : Nat} {bs : List Int} {S : Stk} {c : Nat} (h : WrSpec S0 S o bs.length bs.length c bs) (hon : o + bs.length ≤ 512) : readE S o bs.length = 0 := by
  have hm : readMay (bs.length : Int) = true := decide_eq_true (by omega)
  have hE : checkE o bs.length true = 0 := by
    unfold checkE
    rw [if_pos rfl, if_pos (by omega)]
  unfold readE
  rw [hm, if_neg (by simp [hE]), if_pos (by have h2 := wrote_on (k := 0) (n := bs.length) h hon (by omega); exact h2)]
theorem wrote_readRow {o : Nat} {bs : List Int} {S : Stk} {c : Nat} (h : WrSpec S0 S o bs.length bs.length c bs) (hon : o + bs.length ≤ 512) : readRow S o bs.length = bs := by
  unfold readRow
  rw [if_pos (wrote_readE h hon)]
  have h2 := wrote_row (k := 0) (n := bs.length) h (by omega)
  simpa using h2
theorem leV_cons (x : Int) (l : List Int) : leV (x :: l) = leV l * 256 + x := rfl
theorem leV_bound : ∀ (l : List Int), ByteL l → 0 ≤ leV l ∧ leV l < 256 ^ l.length
  | [], _ => by decide
  | x :: l, h => by
    have hx := h x List.mem_cons_self
    have ih := leV_bound l (fun y hy => h y (List.mem_cons_of_mem _ hy))
    have hp : (256 : Int) ^ (l.length + 1) = 256 ^ l.length * 256 := Int.pow_succ _ _
    rw [leV_cons, List.length_cons, hp]
    omega
theorem leV_small {l : List Int} (h : ByteL l) (hl : l.length < 8) : 0 ≤ leV l ∧ leV l < 72057594037927936 := by
  have h1 := leV_bound l h
  refine ⟨h1.1, Int.lt_of_lt_of_le h1.2 ?_⟩
  have hk : ∀ k : Nat, k < 8 → (256 : Int) ^ k ≤ 72057594037927936 := by decide
  exact hk _ hl
theorem newRow_sees {w w' : World} {v : Value} {bs : List Int} (h : NewRow w w' v bs) : Sees w' v (u8s bs) := by
  obtain ⟨a, c, rfl, h⟩ := h
  rcases h.2 with ⟨h1, h2⟩ | ⟨g, cap, cur, h1, _, _, hc, _⟩
  · obtain rfl : bs = [] := List.eq_nil_of_length_eq_zero h2
    cases h1
    exact .inl ⟨rfl, rfl⟩
  · cases h1
    exact .inr ⟨⟨g, 0, none⟩, c, by rw [u8s_len], by rw [u8s_len]; exact hc, fun j u hj => h.cells (g := g) rfl j u hj⟩
end Go.Proofs.Ytmaeiifhmngllaa.M
