/-
  trie, plain: what plain keeps of a key.
-/
import Derived.Test.YtpoinhfkgnkedaaPlain
namespace Go.Proofs.Ytpoinhfkgnkedaa.M
open Go.RowKit Go.Shelf
set_option linter.unusedVariables false
set_option linter.unusedSectionVars false
set_option linter.unusedSimpArgs false
theorem or_bit_nat : ∀ n : Nat, n < 256 → ∀ j : Nat, j < 8 → ∀ x : Nat, x < 2 → (0 ≤ bits .or .u8 (n : Int) ((x : Int) * 2 ^ (7 - j)) ∧ bits .or .u8 (n : Int) ((x : Int) * 2 ^ (7 - j)) ≤ 255) ∧ ∀ i, i < 8 → bits .or .u8 (n : Int) ((x : Int) * 2 ^ (7 - j)) / 2 ^ (7 - i) % 2 = if i = j ∧ x = 1 then 1 else (n : Int) / 2 ^ (7 - i) % 2 := by decide +kernel
theorem or_bit {y x : Int} (hy : 0 ≤ y ∧ y ≤ 255) (hx : x = 0 ∨ x = 1) (j : Nat) : (0 ≤ bits .or .u8 y (x * 2 ^ (7 - j % 8)) ∧ bits .or .u8 y (x * 2 ^ (7 - j % 8)) ≤ 255) ∧ ∀ i : Nat, bits .or .u8 y (x * 2 ^ (7 - j % 8)) / 2 ^ (7 - i % 8) % 2 = if i % 8 = j % 8 ∧ x = 1 then 1 else y / 2 ^ (7 - i % 8) % 2 := by
  obtain ⟨n, rfl⟩ := Int.eq_ofNat_of_zero_le hy.1
  have hn : n < 256 := by omega
  rcases hx with rfl | rfl
  · have h := or_bit_nat n hn (j % 8) (by omega) 0 (by omega)
    exact ⟨h.1, fun i => by have h2 := h.2 (i % 8) (by omega); simpa using h2⟩
  · have h := or_bit_nat n hn (j % 8) (by omega) 1 (by omega)
    exact ⟨h.1, fun i => by have h2 := h.2 (i % 8) (by omega); simpa using h2⟩
theorem getD_byte {o : List Int} (h : ByteL o) (i : Nat) : 0 ≤ o.getD i 0 ∧ o.getD i 0 ≤ 255 := by
  rw [List.getD_eq_getElem?_getD]
  cases he : o[i]? with
  | none => simp
  | some x => exact h x (List.mem_of_getElem? he)
theorem putBit_len (o : List Int) (k : Nat) (x : Int) : (putBit o k x).length = o.length := by simp [putBit]
theorem putBit_byte {o : List Int} (h : ByteL o) {k : Nat} {x : Int} (hx : x = 0 ∨ x = 1) : ByteL (putBit o k x) := fun z hz => by
  unfold putBit at hz
  rcases List.mem_or_eq_of_mem_set hz with hz | rfl
  · exact h z hz
  · exact (or_bit (getD_byte h _) hx k).1
theorem putBit_bit {o : List Int} (h : ByteL o) {k : Nat} {x : Int} (hx : x = 0 ∨ x = 1) (hk : 4 + k / 8 < o.length) (i : Nat) : kbit (putBit o k x) i = if i = k ∧ x = 1 then 1 else kbit o i := by
  unfold kbit putBit
  by_cases hi : i / 8 = k / 8
  · rw [hi, List.getD_eq_getElem?_getD, List.getElem?_set_self hk, Option.getD_some, (or_bit (getD_byte h _) hx k).2 i]
    by_cases he : i % 8 = k % 8 ∧ x = 1
    · rw [if_pos he, if_pos ⟨by omega, he.2⟩]
    · rw [if_neg he, if_neg (fun h2 => he ⟨by rw [h2.1], h2.2⟩)]
  · rw [List.getD_eq_getElem?_getD, List.getElem?_set_ne (by omega), ← List.getD_eq_getElem?_getD, if_neg (fun h2 => hi (by rw [h2.1]))]
theorem putBit_take (o : List Int) (k : Nat) (x : Int) : (putBit o k x).take 4 = o.take 4 := by
  unfold putBit
  rw [List.take_set_of_le (by omega)]
theorem putAll_spec : ∀ (l o : List Int) (k : Nat), ByteL o → (∀ x ∈ l, x = 0 ∨ x = 1) → k + l.length ≤ 8 * (o.length - 4) →
    ByteL (putAll o k l) ∧ (putAll o k l).take 4 = o.take 4 ∧ ∀ i, kbit (putAll o k l) i = if k ≤ i ∧ l[i - k]? = some 1 then 1 else kbit o i
  | [], o, k, hb, _, _ => ⟨hb, rfl, fun i => by simp [putAll]⟩
  | x :: l, o, k, hb, hl, hk => by
    simp only [List.length_cons] at hk
    have hx := hl x List.mem_cons_self
    obtain ⟨h1, h2, h3⟩ := putAll_spec l (putBit o k x) (k + 1) (putBit_byte hb hx) (fun y hy => hl y (List.mem_cons_of_mem _ hy)) (by rw [putBit_len]; omega)
    have e : putAll o k (x :: l) = putAll (putBit o k x) (k + 1) l := rfl
    rw [e]
    refine ⟨h1, h2.trans (putBit_take _ _ _), fun i => ?_⟩
    rw [h3, putBit_bit hb hx (by omega)]
    by_cases hi : k < i
    · have e1 : i - k = (i - (k + 1)) + 1 := by omega
      rw [e1, List.getElem?_cons_succ]
      by_cases hc : l[i - (k + 1)]? = some 1
      · rw [if_pos ⟨by omega, hc⟩, if_pos ⟨by omega, hc⟩]
      · rw [if_neg (fun h => hc h.2), if_neg (fun h => by omega), if_neg (fun h => hc h.2)]
    · rw [if_neg (fun h => by omega)]
      by_cases he : i = k
      · subst he
        rw [Nat.sub_self, List.getElem?_cons_zero]
        simp
      · rw [if_neg (fun h => he h.1), if_neg (fun h => by omega)]
theorem headK_byte {ks : List Int} (h : ByteL ks) : ByteL (headK ks) := fun x hx => by
  unfold headK at hx
  rcases List.mem_append.1 hx with hx | hx
  · exact h x (List.mem_of_mem_take hx)
  · obtain ⟨_, rfl⟩ := List.mem_replicate.1 hx
    omega
theorem headK_bit {ks : List Int} (h4 : 4 ≤ ks.length) (i : Nat) : kbit (headK ks) i = 0 := by
  unfold kbit headK
  rw [List.getD_eq_getElem?_getD, List.getElem?_append_right (by rw [List.length_take]; omega), List.getElem?_replicate]
  split <;> simp
theorem headK_take {ks : List Int} (h4 : 4 ≤ ks.length) : (headK ks).take 4 = ks.take 4 := by
  unfold headK
  rw [List.take_append_of_le_length (by rw [List.length_take]; omega), List.take_take]
  simp
theorem kbits_01 (ks : List Int) : ∀ x ∈ kbits ks, x = 0 ∨ x = 1 := fun x hx => by
  unfold kbits at hx
  obtain ⟨i, _, rfl⟩ := List.mem_map.1 hx
  exact kbit_01 ks i
theorem plainK_len {ks : List Int} (h : 4 ≤ ks.length) : (plainK ks).length = ks.length := by
  unfold plainK
  rw [putAll_len, headK_len h]
theorem plainK_spec {ks : List Int} (h : KeyOk ks) : ByteL (plainK ks) ∧ (plainK ks).take 4 = ks.take 4 ∧ ∀ i, kbit (plainK ks) i = if i < kmany ks ∧ kbit ks i = 1 then 1 else 0 := by
  obtain ⟨h1, h2, h3⟩ := putAll_spec (kbits ks) (headK ks) 0 (headK_byte h.bytes) (kbits_01 ks) (by rw [kbits_len, headK_len h.four]; have := h.le; omega)
  refine ⟨h1, h2.trans (headK_take h.four), fun i => ?_⟩
  unfold plainK
  rw [h3, headK_bit h.four, Nat.sub_zero]
  congr 1
  rw [kbits, List.getElem?_map]
  by_cases hi : i < kmany ks
  · rw [List.getElem?_range hi]
    simp [hi]
  · rw [List.getElem?_eq_none (by simp; omega)]
    simp [hi]
theorem plainK_byte {ks : List Int} (h : KeyOk ks) : ByteL (plainK ks) := (plainK_spec h).1
theorem plainK_many {ks : List Int} (h : KeyOk ks) : kmany (plainK ks) = kmany ks := by
  unfold kmany
  rw [(plainK_spec h).2.1]
theorem plainK_ok {ks : List Int} (h : KeyOk ks) : KeyOk (plainK ks) := by
  have hl := plainK_len h.four
  exact ⟨plainK_byte h, by rw [hl]; exact h.four, by rw [hl]; exact h.long, by rw [(plainK_spec h).2.1, hl]; exact h.fits⟩
theorem plainK_bits {ks : List Int} (h : KeyOk ks) : kbits (plainK ks) = kbits ks := by
  unfold kbits
  rw [plainK_many h]
  refine List.map_congr_left (fun i hi => ?_)
  rw [List.mem_range] at hi
  rw [(plainK_spec h).2.2 i]
  rcases kbit_01 ks i with h0 | h1
  · rw [h0]; simp
  · rw [h1]; simp [hi]
end Go.Proofs.Ytpoinhfkgnkedaa.M
