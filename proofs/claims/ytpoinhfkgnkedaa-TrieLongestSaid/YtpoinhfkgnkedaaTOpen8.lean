/-
  Plain: bytes, and rows of bytes, that come in, as numbers in their range.
-/
import Derived.Test.YtpoinhfkgnkedaaGA
import Derived.Test.YtpoinhfkgnkedaaOpen
import Derived.BigFrame
namespace Go.Proofs.Ytpoinhfkgnkedaa.M
open Go.RowKit Go.Deep
set_option linter.unusedVariables false
set_option linter.unusedSectionVars false
set_option linter.unusedSimpArgs false
theorem wf8 {z : Int} (h : (Lit.int .u8 z).wf = true) : 0 ≤ z ∧ z ≤ 255 := by
  simp only [Lit.wf, Bool.and_eq_true, decide_eq_true_eq] at h
  exact ⟨h.1, Int.le_trans h.2 (by decide)⟩
section
variable {H : Type} {enc : TypeId × Value → H} {P : Program} {w : World}
theorem bytes8_of {t e : TypeId} (ht : P.underlying t = some (.slice e)) (he : P.underlying e = some (.int .u8)) (hc : P.cellsOf e = 1) (h1 : P.bytesOf e = 1) {base : Nat} {v : Value} {d : DataW H} {ps : List MemPlace}
    (hval : Value.okWide P w .any base t v) (h : DataW.Trod enc P w 0 (fun _ => true) true t v d ps) (hsz : ∀ n ∈ d.weights P t, n ≤ reachBytes) :
    ∃ l : List Int, (Sees w v (u8s l) ∧ ByteL l) ∧ l.length ≤ 140737488351232 := by
  obtain ⟨a1, len, cap, rfl⟩ := WideShapes.okWide_slice ht hval
  obtain ⟨fuel, hf⟩ := h
  rcases ChangeShapes.open_ints ht he hc hf with ⟨hcs, hx⟩ | ⟨a, len', cap', zs, hcs, _, hl, hm, hz, hx, hcell, hwz⟩
  · simp [Value.cells] at hcs
    obtain ⟨rfl, rfl, rfl⟩ := hcs
    exact ⟨[], ⟨.inl ⟨rfl, rfl⟩, (fun u hu => by cases hu)⟩, Nat.zero_le _⟩
  · simp [Value.cells] at hcs
    obtain ⟨rfl, rfl, rfl⟩ := hcs
    simp only [Prod.mk.injEq] at hx
    obtain ⟨rfl, rfl⟩ := hx
    simp only [if_true] at hz
    have hw := hsz (cap * P.bytesOf e) (by
      simp only [DataW.weights, ht, List.mem_cons]
      left
      simp only [ChangeShapes.lits, List.length_map, List.length_take, List.length_drop, hz]
      congr 1
      omega)
    rw [h1] at hw
    have hr : reachBytes = 140737488351232 := rfl
    refine ⟨zs.take len, ⟨.inr ⟨a, cap, ?_, ?_, fun j u hu => ?_⟩, fun z hz => ?_⟩, ?_⟩
    · simp [u8s]; omega
    · simp [u8s]; omega
    · unfold u8s at hu
      rw [List.getElem?_map] at hu
      obtain ⟨z, hz2, rfl⟩ := Option.map_eq_some_iff.1 hu
      have hj : j < zs.length := by
        have := (List.getElem?_eq_some_iff.1 hz2).1
        simp at this
        omega
      rw [hcell j hj]
      rw [List.getElem?_take] at hz2
      split at hz2
      · simp [List.getD, hz2]
      · cases hz2
    · exact wf8 (hwz z (List.mem_of_mem_take hz))
    · simp; omega
end
section
variable {H : Type} {enc : TypeId × Value → H} {w : World}
set_option maxRecDepth 100000 in
theorem bytes8_in {base : Nat} {v : Value} {d : DataW H} {ps : List MemPlace} (hval : Value.okWide Try.prog w .any base 26 v) (h : DataW.Trod enc Try.prog w 0 (fun _ => true) true 26 v d ps) (hsz : ∀ n ∈ d.weights Try.prog 26, n ≤ reachBytes) :
    ∃ l : List Int, (Sees w v (u8s l) ∧ ByteL l) ∧ l.length ≤ 140737488351232 :=
  bytes8_of Try.underlying26 Try.underlying5 (by kernel_rfl) (by kernel_rfl) hval h hsz
end
section
variable {H : Type} {enc : TypeId × Value → H} {P : Program} {w : World}
theorem rows8_of {t e q : TypeId} (ht : P.underlying t = some (.slice e)) (he : P.underlying e = some (.slice q)) (hq : P.underlying q = some (.int .u8)) (ce : P.cellsOf e = 1) (cq : P.cellsOf q = 1) (b1 : 1 ≤ P.bytesOf e) (h1 : P.bytesOf q = 1)
    {base : Nat} {v : Value} {d : DataW H} {ps : List MemPlace} (hval : Value.okWide P w .any base t v) (h : DataW.Trod enc P w 0 (fun _ => true) true t v d ps) (hsz : ∀ n ∈ d.weights P t, n ≤ reachBytes) :
    ∃ rows : List (List Int), SeesRows w v (rows.map u8s) ∧ rows.length ≤ 140737488351232 ∧ ∀ r ∈ rows, ByteL r ∧ r.length ≤ 140737488351232 := by
  obtain ⟨a1, len, cap, rfl⟩ := WideShapes.okWide_slice ht hval
  obtain ⟨fuel, hf⟩ := h
  have hr : reachBytes = 140737488351232 := rfl
  rcases open_int_rows ht he hq ce cq hf with ⟨hcs, hx⟩ | ⟨a, len', cap', A, L, C, Z, hcs, _, hl, hm, hx, hrow⟩
  · simp [Value.cells] at hcs
    obtain ⟨rfl, rfl, rfl⟩ := hcs
    exact ⟨[], ⟨[], .inl ⟨rfl, rfl⟩, rfl, fun i x r hx => by cases hx⟩, Nat.zero_le _, fun r hr => by cases hr⟩
  · simp [Value.cells] at hcs
    obtain ⟨rfl, rfl, rfl⟩ := hcs
    simp only [Prod.mk.injEq] at hx
    obtain ⟨rfl, rfl⟩ := hx
    have hw0 := hsz ((len + (cap - len)) * P.bytesOf e) (by
      simp only [DataW.weights, ht, List.mem_cons]
      left
      simp)
    have hwi : ∀ i, i < len → ∀ n ∈ (intRow (H := H) .u8 (A i) (L i) (Z i)).weights P e, n ≤ reachBytes := fun i hi n hn => hsz n (by
      simp only [DataW.weights, ht, List.mem_cons, List.mem_append]
      right; left
      exact weights_all (List.mem_map.2 ⟨i, List.mem_range.2 hi, rfl⟩) n hn)
    have hci : ∀ i, i < len → C i ≤ 140737488351232 := fun i hi => by
      obtain ⟨hcell, hLC, hCm, hZ, hwf, hnone, hsome⟩ := hrow i (by omega)
      cases hA : A i with
      | none => have := hnone hA; omega
      | some a' =>
        have := hwi i hi (C i * P.bytesOf q) (by
          simp only [intRow, hA, DataW.weights, he, List.mem_cons]
          left
          simp only [ChangeShapes.lits, List.length_map, List.length_take, List.length_drop, hZ]
          congr 1
          omega)
        rw [h1, Nat.mul_one] at this
        omega
    have hlb : len ≤ 140737488351232 := by
      have h2 : len + (cap - len) ≤ (len + (cap - len)) * P.bytesOf e := Nat.le_mul_of_pos_right _ b1
      omega
    refine ⟨(List.range len).map fun i => (Z i).take (L i), ⟨(List.range len).map fun i => .slice (A i) (L i) (C i), .inr ⟨a, cap, by simp, by simp; omega, fun j u hu => ?_⟩, by simp, fun i x r hx hr => ?_⟩, by simp; omega, fun r hr => ?_⟩
    · rw [List.getElem?_map] at hu
      obtain ⟨z, hz2, rfl⟩ := Option.map_eq_some_iff.1 hu
      obtain ⟨hj, rfl⟩ := List.getElem?_eq_some_iff.1 hz2
      simp at hj
      simpa using (hrow j (by omega)).1
    · rw [List.map_map] at hr
      rw [List.getElem?_map] at hx hr
      obtain ⟨z, hz2, rfl⟩ := Option.map_eq_some_iff.1 hx
      rw [hz2] at hr
      obtain rfl := Option.some.inj hr
      simp only [Function.comp_def]
      unfold u8s
      obtain ⟨hj, rfl⟩ := List.getElem?_eq_some_iff.1 hz2
      simp only [List.length_range] at hj
      simp only [List.getElem_range]
      obtain ⟨hcell, hLC, hCm, hZ, hwf, hnone, hsome⟩ := hrow i (by omega)
      cases hA : A i with
      | none =>
        have h0 := hnone hA
        left
        refine ⟨by rw [h0, show L i = 0 by omega], ?_⟩
        rw [show L i = 0 by omega]
        rfl
      | some a' =>
        right
        refine ⟨a', C i, ?_, ?_, fun j u hu => ?_⟩
        · simp; omega
        · simp; omega
        · rw [List.getElem?_map] at hu
          obtain ⟨z, hz3, rfl⟩ := Option.map_eq_some_iff.1 hu
          have hj2 : j < C i := by
            have := (List.getElem?_eq_some_iff.1 hz3).1
            simp at this
            omega
          rw [(hsome a' hA).2 j hj2]
          rw [List.getElem?_take] at hz3
          split at hz3
          · simp [List.getD, hz3]
          · cases hz3
    · obtain ⟨i, hi, rfl⟩ := List.mem_map.1 hr
      have hi := List.mem_range.1 hi
      obtain ⟨hcell, hLC, hCm, hZ, hwf, hnone, hsome⟩ := hrow i (by omega)
      have := hci i hi
      refine ⟨fun u hu => ?_, by simp; omega⟩
      exact wf8 (hwf u (List.mem_of_mem_take hu))
end
end Go.Proofs.Ytpoinhfkgnkedaa.M
