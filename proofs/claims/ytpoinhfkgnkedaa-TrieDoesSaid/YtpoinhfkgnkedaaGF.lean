/-
  Merged: TfKp, TfKo, TfKq, TfKs, TfKt, TfKu.
-/
import Derived.Test.YtpoinhfkgnkedaaGJ
import Derived.Sort.Walk0
import Derived.Test.YtpoinhfkgnkedaaTrSort
import Derived.Test.YtpoinhfkgnkedaaTrPl
import Derived.Test.YtpoinhfkgnkedaaTrKeysW
namespace Go.Proofs.Ytpoinhfkgnkedaa.M
open Go.RowKit
set_option linter.unusedVariables false
set_option linter.unusedSectionVars false
set_option linter.unusedSimpArgs false
/-- The bytes of a row of signs. -/
def sby (x : List Int) : List UInt8 := (strOfNums x).toList
/-- Does a row of signs stand before another one: the shorter first. -/
def befS (x y : List Int) : Bool := decide (x.length < y.length) || (decide (x.length = y.length) && Op.bytesLess (sby x) (sby y))
theorem befS_iff (x y : List Int) : befS x y = true ↔ x.length < y.length ∨ (x.length = y.length ∧ sby x < sby y) := by
  unfold befS
  rw [bytesLess_eq]
  simp
theorem befS_asymm {x y : List Int} (h : befS x y = true) : befS y x = false := by
  cases hc : befS y x with
  | false => rfl
  | true =>
    rw [befS_iff] at h hc
    rcases h with h | ⟨h1, h2⟩ <;> rcases hc with h' | ⟨h1', h2'⟩
    · omega
    · omega
    · omega
    · exact absurd h2' (List.lt_asymm h2)
theorem befS_not_trans {x y z : List Int} (h1 : befS y x = false) (h2 : befS z y = false) : befS z x = false := by
  cases hc : befS z x with
  | false => rfl
  | true =>
    have h1 : ¬ (befS y x = true) := by rw [h1]; decide
    have h2 : ¬ (befS z y = true) := by rw [h2]; decide
    rw [befS_iff] at h1 h2 hc
    rw [not_or] at h1 h2
    rcases hc with h | ⟨h, h'⟩
    · omega
    · have e1 : y.length = x.length := by omega
      have e2 : z.length = y.length := by omega
      have k1 : sby x ≤ sby y := List.not_lt.1 (fun hh => h1.2 ⟨e1, hh⟩)
      have k2 : sby y ≤ sby z := List.not_lt.1 (fun hh => h2.2 ⟨e2, hh⟩)
      exact absurd h' (List.not_lt.2 (List.le_trans k1 k2))
def insS (S : List (List Int)) (b : List Int) : List (List Int) := S.takeWhile (befS · b) ++ b :: S.dropWhile (befS · b)
theorem insS_perm (S : List (List Int)) (b : List Int) : (insS S b).Perm (b :: S) := by
  unfold insS
  have h : S = S.takeWhile (befS · b) ++ S.dropWhile (befS · b) := List.takeWhile_append_dropWhile.symm
  exact List.perm_middle.trans (by rw [← h])
theorem insS_sorted {S : List (List Int)} (h : S.Pairwise fun x y => befS y x = false) (b : List Int) : (insS S b).Pairwise fun x y => befS y x = false := by
  unfold insS
  have hs : S = S.takeWhile (befS · b) ++ S.dropWhile (befS · b) := List.takeWhile_append_dropWhile.symm
  rw [hs, List.pairwise_append] at h
  obtain ⟨h1, h2, h3⟩ := h
  have ht : ∀ x ∈ S.takeWhile (befS · b), befS x b = true := fun x hx => by
    have := List.all_takeWhile (p := (befS · b)) (l := S)
    exact List.all_eq_true.1 this x hx
  have hd : ∀ y ∈ S.dropWhile (befS · b), befS y b = false := fun y hy => by
    cases hD : S.dropWhile (befS · b) with
    | nil => rw [hD] at hy; cases hy
    | cons z Z =>
      have hz : befS z b = false := by
        have hne : S.dropWhile (befS · b) ≠ [] := by rw [hD]; simp
        have := List.head_dropWhile_not (befS · b) hne
        simp only [hD, List.head_cons] at this
        exact this
      rw [hD] at hy h2
      rcases List.mem_cons.1 hy with rfl | hy
      · exact hz
      · exact befS_not_trans hz ((List.pairwise_cons.1 h2).1 y hy)
  rw [List.pairwise_append]
  refine ⟨h1, List.pairwise_cons.2 ⟨hd, h2⟩, fun x hx y hy => ?_⟩
  rcases List.mem_cons.1 hy with rfl | hy
  · exact befS_asymm (ht x hx)
  · exact h3 x hx y hy
def sortS (L : List (List Int)) : List (List Int) := L.foldl insS []
theorem sortS_all (L : List (List Int)) : (sortS L).Perm L ∧ (sortS L).Pairwise fun x y => befS y x = false := by
  suffices ∀ (L S : List (List Int)), (S.Pairwise fun x y => befS y x = false) → (L.foldl insS S).Perm (S ++ L) ∧ (L.foldl insS S).Pairwise fun x y => befS y x = false by
    have h := this L [] List.Pairwise.nil
    unfold sortS
    simpa using h
  intro L
  induction L with
  | nil => intro S h; exact ⟨by simp, h⟩
  | cons b L ih =>
    intro S h
    obtain ⟨h1, h2⟩ := ih (insS S b) (insS_sorted h b)
    refine ⟨h1.trans ?_, h2⟩
    exact ((insS_perm S b).append_right L).trans (by
      rw [List.cons_append]
      exact List.perm_middle.symm)
end Go.Proofs.Ytpoinhfkgnkedaa.M
namespace Go.Proofs.Ytpoinhfkgnkedaa.M
open Go.RowKit
set_option linter.unusedVariables false
set_option linter.unusedSectionVars false
set_option linter.unusedSimpArgs false
/-- The first place where two rows differ. -/
def FirstLt (a b : List UInt8) : Prop := ∃ j : Nat, (∀ i : Nat, i < j → a[i]? = b[i]?) ∧ ∃ x y : UInt8, a[j]? = some x ∧ b[j]? = some y ∧ x < y
theorem cb_first : ∀ (a b : List UInt8), FirstLt a b → Lib.compareBytes a b = -1
  | [], _, ⟨j, _, x, y, h, _⟩ => by simp at h
  | _ :: _, [], ⟨j, _, x, y, _, h, _⟩ => by simp at h
  | a :: xs, b :: ys, ⟨0, _, x, y, h1, h2, h3⟩ => by
    simp only [List.getElem?_cons_zero, Option.some.injEq] at h1 h2
    subst h1 h2
    unfold Lib.compareBytes
    rw [if_pos h3]
  | a :: xs, b :: ys, ⟨j + 1, h0, x, y, h1, h2, h3⟩ => by
    have e := h0 0 (Nat.succ_pos _)
    simp only [List.getElem?_cons_zero, Option.some.injEq] at e
    subst e
    unfold Lib.compareBytes
    have : ¬ a < a := UInt8.lt_irrefl a
    rw [if_neg this, if_neg this]
    exact cb_first xs ys ⟨j, fun i hi => by simpa using h0 (i + 1) (by omega), x, y, by simpa using h1, by simpa using h2, h3⟩
theorem lt_first : ∀ (a b : List UInt8), a.length = b.length → a < b → FirstLt a b
  | [], [], _, h => absurd h (List.lt_irrefl _)
  | [], _ :: _, h, _ => by simp at h
  | _ :: _, [], h, _ => by simp at h
  | x :: a, y :: b, hl, h => by
    rw [List.cons_lt_cons_iff] at h
    rcases h with h | ⟨rfl, h⟩
    · exact ⟨0, fun i hi => absurd hi (Nat.not_lt_zero _), x, y, rfl, rfl, h⟩
    · obtain ⟨j, h1, u, v, h2, h3, h4⟩ := lt_first a b (by simpa using hl) h
      refine ⟨j + 1, fun i hi => ?_, u, v, by simpa using h2, by simpa using h3, h4⟩
      cases i with
      | zero => rfl
      | succ i => simpa using h1 i (by omega)
theorem byte_lt : ∀ (j : Nat), j < 8 → ∀ x y : Int, 0 ≤ x → x ≤ 255 → 0 ≤ y → y ≤ 255 → (∀ i, i < j → x / 2 ^ (7 - i) % 2 = y / 2 ^ (7 - i) % 2) → x / 2 ^ (7 - j) % 2 = 0 → y / 2 ^ (7 - j) % 2 = 1 → x < y := by
  intro j hj x y h1 h2 h3 h4 hp hx hy
  have p : ∀ i, i < j → x / 2 ^ (7 - i) % 2 = y / 2 ^ (7 - i) % 2 := hp
  match j, hj with
  | 0, _ => simp at hx hy; omega
  | 1, _ => have q0 := p 0 (by omega); simp at hx hy q0; omega
  | 2, _ => have q0 := p 0 (by omega); have q1 := p 1 (by omega); simp at hx hy q0 q1; omega
  | 3, _ => have q0 := p 0 (by omega); have q1 := p 1 (by omega); have q2 := p 2 (by omega); simp at hx hy q0 q1 q2; omega
  | 4, _ => have q0 := p 0 (by omega); have q1 := p 1 (by omega); have q2 := p 2 (by omega); have q3 := p 3 (by omega); simp at hx hy q0 q1 q2 q3; omega
  | 5, _ => have q0 := p 0 (by omega); have q1 := p 1 (by omega); have q2 := p 2 (by omega); have q3 := p 3 (by omega); have q4 := p 4 (by omega); simp at hx hy q0 q1 q2 q3 q4; omega
  | 6, _ => have q0 := p 0 (by omega); have q1 := p 1 (by omega); have q2 := p 2 (by omega); have q3 := p 3 (by omega); have q4 := p 4 (by omega); have q5 := p 5 (by omega); simp at hx hy q0 q1 q2 q3 q4 q5; omega
  | 7, _ => have q0 := p 0 (by omega); have q1 := p 1 (by omega); have q2 := p 2 (by omega); have q3 := p 3 (by omega); have q4 := p 4 (by omega); have q5 := p 5 (by omega); have q6 := p 6 (by omega); simp at hx hy q0 q1 q2 q3 q4 q5 q6; omega
theorem byte_eq {x y : Int} (h1 : 0 ≤ x ∧ x ≤ 255) (h2 : 0 ≤ y ∧ y ≤ 255) (p : ∀ i, i < 8 → x / 2 ^ (7 - i) % 2 = y / 2 ^ (7 - i) % 2) : x = y := by
  have q0 := p 0 (by omega); have q1 := p 1 (by omega); have q2 := p 2 (by omega); have q3 := p 3 (by omega)
  have q4 := p 4 (by omega); have q5 := p 5 (by omega); have q6 := p 6 (by omega); have q7 := p 7 (by omega)
  simp at q0 q1 q2 q3 q4 q5 q6 q7
  omega
theorem sby_at (x : List Int) (i : Nat) : (sby x)[i]? = (x[i]?).map fun n => UInt8.ofNat n.toNat := by
  unfold sby
  rw [ByteArray.toList_eq]
  simp [strOfNums]
theorem sby_len (x : List Int) : (sby x).length = x.length := by
  unfold sby
  rw [ByteArray.toList_eq]
  simp [strOfNums]
/-- The first bit where two keys of one length differ. -/
theorem first_bit {a b : List Int} (ha : KeyOk a) (hb : KeyOk b) (hl : (kbits b).length = (kbits a).length) (h : sby (chs (kbits b)) < sby (chs (kbits a))) : ∃ j, j < kmany a ∧ (∀ i, i < j → kbit b i = kbit a i) ∧ kbit b j = 0 ∧ kbit a j = 1 := by
  obtain ⟨j, h1, u, v, h2, h3, h4⟩ := lt_first _ _ (by rw [sby_len, sby_len, chs_len, chs_len, hl]) h
  have at' : ∀ (k : List Int) (i : Nat), (sby (chs (kbits k)))[i]? = if i < kmany k then some (UInt8.ofNat (48 + kbit k i).toNat) else none := fun k i => by
    rw [sby_at]
    unfold chs kbits
    rw [List.getElem?_map, List.getElem?_map]
    by_cases hi : i < kmany k
    · rw [List.getElem?_range hi, if_pos hi]; rfl
    · rw [List.getElem?_eq_none (by simpa using hi), if_neg hi]; rfl
  have bit : ∀ (k k' : List Int) (i i' : Nat), UInt8.ofNat (48 + kbit k i).toNat = UInt8.ofNat (48 + kbit k' i').toNat → kbit k i = kbit k' i' := fun k k' i i' e => by
    rcases kbit_01 k i with h | h <;> rcases kbit_01 k' i' with h' | h' <;> rw [h, h'] at e ⊢
    · exact absurd e (by decide)
    · exact absurd e (by decide)
  have hm : kmany b = kmany a := by rw [← kbits_len, ← kbits_len, hl]
  rw [at'] at h2 h3
  have hja : j < kmany a := by
    by_cases hj : j < kmany a
    · exact hj
    · rw [if_neg hj] at h3; cases h3
  rw [if_pos (by omega)] at h2
  rw [if_pos hja] at h3
  refine ⟨j, hja, fun i hi => ?_, ?_⟩
  · have := h1 i hi
    rw [at', at', if_pos (by omega), if_pos (by omega)] at this
    exact bit _ _ _ _ (Option.some.inj this)
  · rw [← Option.some.inj h2, ← Option.some.inj h3] at h4
    rcases kbit_01 b j with h | h <;> rcases kbit_01 a j with h' | h' <;> rw [h, h'] at h4
    · exact absurd h4 (by decide)
    · exact ⟨h, h'⟩
    · exact absurd h4 (by decide)
    · exact absurd h4 (by decide)
theorem key_at {a : List Int} (ha : KeyOk a) {m : Nat} (hm : 4 + m < a.length) : ∃ x, a[4 + m]? = some x ∧ 0 ≤ x ∧ x ≤ 255 ∧ ∀ i, i < 8 → kbit a (8 * m + i) = x / 2 ^ (7 - i) % 2 := by
  refine ⟨a[4 + m], List.getElem?_eq_getElem hm, (ha.bytes _ (List.getElem_mem hm)).1, (ha.bytes _ (List.getElem_mem hm)).2, fun i hi => ?_⟩
  unfold kbit
  have e1 : (8 * m + i) / 8 = m := by omega
  have e2 : (8 * m + i) % 8 = i := by omega
  rw [e1, e2, List.getD_eq_getElem?_getD, List.getElem?_eq_getElem hm]
  rfl
theorem le_inj {a b : List Int} (ha : ByteL a) (hb : ByteL b) (h4a : 4 ≤ a.length) (h4b : 4 ≤ b.length) (h : leV (a.take 4) = leV (b.take 4)) : a.take 4 = b.take 4 := by
  obtain ⟨a0, a1, a2, a3, l, rfl⟩ := take4 h4a
  obtain ⟨b0, b1, b2, b3, l', rfl⟩ := take4 h4b
  have e1 : leV ((a0 :: a1 :: a2 :: a3 :: l).take 4) = a0 + a1 * 256 + a2 * 65536 + a3 * 16777216 := leV4 a0 a1 a2 a3
  have e2 : leV ((b0 :: b1 :: b2 :: b3 :: l').take 4) = b0 + b1 * 256 + b2 * 65536 + b3 * 16777216 := leV4 b0 b1 b2 b3
  rw [e1, e2] at h
  have := ha a0 (by simp); have := ha a1 (by simp); have := ha a2 (by simp); have := ha a3 (by simp)
  have := hb b0 (by simp); have := hb b1 (by simp); have := hb b2 (by simp); have := hb b3 (by simp)
  have q0 : a0 = b0 := by omega
  have q1 : a1 = b1 := by omega
  have q2 : a2 = b2 := by omega
  have q3 : a3 = b3 := by omega
  simp [q0, q1, q2, q3]
/-- Keys stand as their rows of signs. -/
theorem cfK_bef {a b : List Int} (ha : KeyOk a) (hb : KeyOk b) (hl : a.length = b.length) (h : befS (chs (kbits b)) (chs (kbits a)) = true) : cfK b a = -1 := by
  rw [befS_iff, chs_len, chs_len, kbits_len, kbits_len] at h
  have hma := ha.many
  have hmb := hb.many
  unfold cfK
  rcases h with h | ⟨h, h'⟩
  · have e : cmpI (leV (b.take 4)) (leV (a.take 4)) = -1 := by
      unfold cmpI
      rw [if_pos (by omega)]
    rw [e]
    first | done | rfl
  · have e : cmpI (leV (b.take 4)) (leV (a.take 4)) = 0 := by
      unfold cmpI
      rw [if_neg (by omega), if_neg (by omega)]
    rw [if_pos e]
    obtain ⟨j, hj, hpre, hbj, haj⟩ := first_bit ha hb (by rw [kbits_len, kbits_len]; exact h) h'
    have hle := ha.le
    have h4 := ha.four
    have ht4 : b.take 4 = a.take 4 := le_inj hb.bytes ha.bytes hb.four ha.four (by omega)
    have hdiv : 8 * (j / 8) + j % 8 = j := by omega
    obtain ⟨x, hx, hx0, hx1, hxb⟩ := key_at ha (m := j / 8) (by omega)
    obtain ⟨y, hy, hy0, hy1, hyb⟩ := key_at hb (m := j / 8) (by omega)
    have hlt : y < x := byte_lt (j % 8) (by omega) y x hy0 hy1 hx0 hx1 (fun i hi => by
      rw [← hyb i (by omega), ← hxb i (by omega)]
      exact hpre _ (by omega)) (by rw [← hyb _ (by omega), hdiv]; exact hbj) (by rw [← hxb _ (by omega), hdiv]; exact haj)
    refine cb_first _ _ ⟨4 + j / 8, fun i hi => ?_, y.toNat.toUInt8, x.toNat.toUInt8, ?_, ?_, ?_⟩
    · unfold toU8
      rw [List.getElem?_map, List.getElem?_map]
      congr 1
      by_cases hi4 : i < 4
      · have := congrArg (fun l => l[i]?) ht4
        simpa [List.getElem?_take, hi4] using this
      · obtain ⟨m, rfl⟩ : ∃ m, i = 4 + m := ⟨i - 4, by omega⟩
        obtain ⟨u, hu, hu0, hu1, hub⟩ := key_at ha (m := m) (by omega)
        obtain ⟨v, hv, hv0, hv1, hvb⟩ := key_at hb (m := m) (by omega)
        rw [hu, hv, byte_eq ⟨hv0, hv1⟩ ⟨hu0, hu1⟩ (fun i hi8 => by
          rw [← hub i hi8, ← hvb i hi8]
          exact hpre _ (by omega))]
    · unfold toU8; rw [List.getElem?_map, hy]; rfl
    · unfold toU8; rw [List.getElem?_map, hx]; rfl
    · rw [UInt8.lt_iff_toNat_lt]
      simp only [Nat.toUInt8_eq, UInt8.toNat_ofNat']
      omega
end Go.Proofs.Ytpoinhfkgnkedaa.M
namespace Go.Proofs.Ytpoinhfkgnkedaa.M
open Go.RowKit
set_option linter.unusedVariables false
set_option linter.unusedSectionVars false
set_option linter.unusedSimpArgs false
/-- A key's row, of its bits. -/
def rowR (K : Nat) (π : List Int) : List Int := putAll ([((π.length : Nat) : Int) % 256, ((π.length : Nat) : Int) / 256 % 256, 0, 0] ++ List.replicate (K - 4) 0) 0 π
theorem row_of {K : Nat} {ks : List Int} (h : KeyOk ks) (hl : ks.length = K) (hK : K ≤ 36) (hp : plainK ks = ks) : ks = rowR K (kbits ks) := by
  have hm := h.many
  have hle := h.le
  have h4 := h.four
  have hh : headK ks = [((kmany ks : Nat) : Int) % 256, ((kmany ks : Nat) : Int) / 256 % 256, 0, 0] ++ List.replicate (K - 4) 0 := by
    unfold headK
    rw [hl]
    congr 1
    obtain ⟨a, b, c, d, l, rfl⟩ := take4 h4
    have e1 : leV ((a :: b :: c :: d :: l).take 4) = a + b * 256 + c * 65536 + d * 16777216 := leV4 a b c d
    rw [e1] at hm
    have q0 := h.bytes a (by simp)
    have q1 := h.bytes b (by simp)
    have q2 := h.bytes c (by simp)
    have q3 := h.bytes d (by simp)
    have k0 : a = ((kmany (a :: b :: c :: d :: l) : Nat) : Int) % 256 := by omega
    have k1 : b = ((kmany (a :: b :: c :: d :: l) : Nat) : Int) / 256 % 256 := by omega
    have k2 : c = 0 := by omega
    have k3 : d = 0 := by omega
    rw [← k0, ← k1]
    simp [k2, k3]
  unfold rowR
  rw [kbits_len, ← hh]
  exact hp.symm
theorem sorted_same {α : Type} {R : α → α → Prop} : ∀ (L M : List α), L.Perm M → L.Pairwise R → M.Pairwise R → (∀ x ∈ L, ∀ y ∈ L, R x y → R y x → x = y) → L = M
  | [], M, h, _, _, _ => (List.Perm.nil_eq h)
  | x :: L, [], h, _, _, _ => absurd h.length_eq (by simp)
  | x :: L, y :: M, h, h1, h2, ha => by
    have hxy : x = y := by
      have hx : x ∈ y :: M := h.mem_iff.1 List.mem_cons_self
      have hy : y ∈ x :: L := h.mem_iff.2 List.mem_cons_self
      rcases List.mem_cons.1 hx with e | hx'
      · exact e
      · rcases List.mem_cons.1 hy with e | hy'
        · exact e.symm
        · exact ha x List.mem_cons_self y hy ((List.pairwise_cons.1 h1).1 y hy') ((List.pairwise_cons.1 h2).1 x hx')
    subst hxy
    rw [sorted_same L M (List.Perm.cons_inv h) (List.pairwise_cons.1 h1).2 (List.pairwise_cons.1 h2).2 (fun a ha1 b hb1 => ha a (List.mem_cons_of_mem _ ha1) b (List.mem_cons_of_mem _ hb1))]
theorem nodup_perm {α : Type} [DecidableEq α] : ∀ (L M : List α), L.Nodup → M.Nodup → (∀ x, x ∈ L ↔ x ∈ M) → L.Perm M := fun L M h1 h2 h => by
  rw [List.perm_iff_count]
  intro a
  rw [h1.count, h2.count]
  simp [h a]
/-- Signs as bits. -/
def unchs (cs : List Int) : List Int := cs.map (· - 48)
theorem unchs_chs (π : List Int) : unchs (chs π) = π := by
  unfold unchs chs
  rw [List.map_map]
  have : ((fun x : Int => x - 48) ∘ fun x => 48 + x) = id := by funext x; simp; omega
  rw [this]
  simp
theorem sby_inj {x y : List Int} (hx : ByteL x) (hy : ByteL y) (h : sby x = sby y) : x = y := by
  refine str_inj hx hy ?_
  unfold sby at h
  rw [ByteArray.toList_eq, ByteArray.toList_eq] at h
  exact ByteArray.ext (Array.toList_inj.1 h)
theorem bef_anti {x y : List Int} (hx : ByteL x) (hy : ByteL y) (h1 : befS x y = false) (h2 : befS y x = false) : x = y := by
  have h1 : ¬ (befS x y = true) := by rw [h1]; decide
  have h2 : ¬ (befS y x = true) := by rw [h2]; decide
  rw [befS_iff, not_or] at h1 h2
  have hl : x.length = y.length := by omega
  refine sby_inj hx hy ?_
  have k1 : sby y ≤ sby x := List.not_lt.1 (fun hh => h1.2 ⟨hl, hh⟩)
  have k2 : sby x ≤ sby y := List.not_lt.1 (fun hh => h2.2 ⟨hl.symm, hh⟩)
  exact List.le_antisymm k2 k1
/-- The trie's keys are the reference's. -/
theorem keys_same {K : Nat} {E : EMap} {A : LSt} {Q : List (List Int)} (hK : K ≤ 36) (hQ : KeysE K E Q) (hs : Q.Pairwise fun x y => 0 ≤ cfK y x) (hA : AE A E) : Q = (sortS (A.map (·.1))).map fun cs => rowR K (unchs cs) := by
  have hb : ∀ ks ∈ Q, ByteL (chs (kbits ks)) := fun ks _ => kbits_chs ks
  have e1 : Q.map (fun ks => chs (kbits ks)) = sortS (A.map (·.1)) := by
    obtain ⟨p1, p2⟩ := sortS_all (A.map (·.1))
    refine sorted_same (R := fun x y => befS y x = false) _ _ ?_ ?_ p2 ?_
    · refine List.Perm.trans ?_ p1.symm
      refine nodup_perm _ _ ?_ hA.keys (fun x => ?_)
      · have h1 := hQ.nodup
        have : Q.map (fun ks => chs (kbits ks)) = (Q.map kbits).map chs := by rw [List.map_map]; rfl
        rw [this]
        exact List.Pairwise.map _ (fun a b (hne : a ≠ b) (e : chs a = chs b) => hne (chs_inj e)) h1
      · constructor
        · intro hx
          obtain ⟨ks, hks, rfl⟩ := List.mem_map.1 hx
          obtain ⟨_, _, _, p, hp⟩ := hQ.ok ks hks
          exact List.mem_map.2 ⟨_, hA.into _ p hp, rfl⟩
        · intro hx
          obtain ⟨y, hy, rfl⟩ := List.mem_map.1 hx
          obtain ⟨π, e2, e3⟩ := hA.back y.1 y.2 hy
          obtain ⟨ks, hks, hkb⟩ := hQ.all π _ e3
          exact List.mem_map.2 ⟨ks, hks, by rw [hkb]; exact e2.symm⟩
    · rw [List.pairwise_map]
      refine hs.imp_of_mem (fun {x y} hx hy h => ?_)
      cases hc : befS (chs (kbits y)) (chs (kbits x)) with
      | false => rfl
      | true =>
        have := cfK_bef (hQ.ok x hx).1 (hQ.ok y hy).1 (by rw [(hQ.ok x hx).2.1, (hQ.ok y hy).2.1]) hc
        omega
    · intro x hx y hy h1 h2
      obtain ⟨a, ha, rfl⟩ := List.mem_map.1 hx
      obtain ⟨b, hb', rfl⟩ := List.mem_map.1 hy
      exact bef_anti (hb a ha) (hb b hb') h2 h1
  rw [← e1, List.map_map]
  have : Q.map id = Q.map ((fun cs => rowR K (unchs cs)) ∘ fun ks => chs (kbits ks)) := List.map_congr_left (fun ks hks => by
    obtain ⟨h1, h2, h3, _⟩ := hQ.ok ks hks
    show ks = rowR K (unchs (chs (kbits ks)))
    rw [unchs_chs]
    exact row_of h1 h2 hK h3)
  simpa using this
end Go.Proofs.Ytpoinhfkgnkedaa.M
namespace Go.Proofs.Ytpoinhfkgnkedaa.M
open Go.RowKit
set_option linter.unusedVariables false
set_option linter.unusedSectionVars false
set_option linter.unusedSimpArgs false
def strV (cs : List Int) : Value := .string (strOfNums cs)
theorem strV_one (S : List (List Int)) : ∀ u ∈ S.map strV, u.oneCell' = true := fun u hu => by
  obtain ⟨x, _, rfl⟩ := List.mem_map.1 hu
  rfl
/-- The sorted row. -/
structure SortK (w W : World) (a : Option Addr) (c : Nat) (S : List (List Int)) : Prop where
  own : OwnQ W 9 (.slice a S.length c) (S.map strV)
  low : ∀ b, (Value.slice a S.length c).ownBlock = some b → w.heap.size ≤ b
  but : But [] w W
theorem SortK.new {w W W' : World} {a : Option Addr} {c : Nat} {S : List (List Int)} (h : SortK w W a c S) (hb : But [] W W') : SortK w W' a c S :=
  ⟨h.own.but hb (by simp), h.low, h.but.trans hb (by simp)⟩
theorem SortK.nil (w : World) : SortK w w none 0 [] := ⟨OwnQ.nil _ _, fun b h => (by cases h), But.refl _ _⟩
/-- How far the rows stand before b. -/
def UpB (S : List (List Int)) (b : List Int) (n : Nat) : Prop := ∀ (i : Nat) (x : List Int), i < n → S[i]? = some x → befS x b = true
theorem UpB.next {S : List (List Int)} {b : List Int} {n : Nat} {x : List Int} (h : UpB S b n) (hx : S[n]? = some x) (hb : befS x b = true) : UpB S b (n + 1) := fun i y hi hy => by
  by_cases e : i = n
  · subst e; rw [hx] at hy; cases hy; exact hb
  · exact h i y (by omega) hy
theorem ins_at {S : List (List Int)} {b : List Int} : ∀ {n : Nat}, UpB S b n → (∀ x, S[n]? = some x → befS x b = false) → n ≤ S.length → insS S b = S.take n ++ b :: S.drop n := by
  induction S with
  | nil => intro n _ _ _; simp [insS]
  | cons y S ih =>
    intro n h1 h2 h3
    unfold insS
    cases n with
    | zero =>
      have := h2 y rfl
      simp [this]
    | succ n =>
      have h0 := h1 0 y (Nat.succ_pos _) rfl
      have h4 := ih (n := n) (fun i x hi hx => h1 (i + 1) x (by omega) (by simpa using hx)) (fun x hx => h2 x (by simpa using hx)) (by simpa using h3)
      unfold insS at h4
      simp only [List.takeWhile_cons, List.dropWhile_cons, h0, if_true, List.cons_append, List.take_succ_cons, List.drop_succ_cons]
      rw [h4]
/-- A tail of a row of one's own. -/
theorem OwnQ.from' {w : World} {e : TypeId} {g o n cap : Nat} {xs : List Value} (h : OwnQ w e (.slice (some ⟨g, o, none⟩) n cap) xs) {p : Nat} (hp : p ≤ xs.length) : Sees w (.slice (some ⟨g, o + p, none⟩) (n - p) (cap - p)) (xs.drop p) := by
  have hl := h.len
  refine .inr ⟨⟨g, o + p, none⟩, cap - p, by rw [List.length_drop, hl], ?_, fun j u hj => ?_⟩
  · rcases id h with ⟨h0, _⟩ | ⟨g', o', cap', cur, e1, hg, hc, _⟩
    · cases h0
    · cases e1
      rw [List.length_drop]
      omega
  · rw [List.getElem?_drop] at hj
    have := h.cellAt hj
    rw [add_at]
    rw [show o + p + j = o + (p + j) by omega]
    exact this
/-- What the row with b put in is appended from. -/
theorem SortK.rest {w W : World} {g o c : Nat} {S : List (List Int)} (h : SortK w W (some ⟨g, o, none⟩) c S) {n : Nat} (hn : n ≤ S.length) : Sees W (.slice (some ⟨g, o + n, none⟩) (S.length - n) (c - n)) ((S.drop n).map strV) := by
  have := h.own.from' (p := n) (by simpa using hn)
  rwa [← List.map_drop] at this
theorem SortK.pre {w W : World} {a : Option Addr} {c : Nat} {S : List (List Int)} (h : SortK w W a c S) {n : Nat} (hn : n ≤ S.length) : OwnQ W 9 (.slice a n c) ((S.take n).map strV) := by
  have := h.own.pre (p := n) (by simpa using hn)
  rwa [← List.map_take] at this
theorem sortAt {W : World} {g o n c : Nat} {S : List (List Int)} (h : OwnQ W 9 (.slice (some ⟨g, o, none⟩) n c) (S.map strV)) {i : Nat} {x : List Int} (hx : S[i]? = some x) : W.cell? ⟨g, o + i, none⟩ = some (.string (strOfNums x)) :=
  h.cellAt (by rw [List.getElem?_map, hx]; rfl)
end Go.Proofs.Ytpoinhfkgnkedaa.M
namespace Go.Proofs.Ytpoinhfkgnkedaa.M
open Go.RowKit
set_option linter.unusedVariables false
set_option linter.unusedSectionVars false
set_option linter.unusedSimpArgs false
theorem src_str1 {i0 : TypeInfo} (hz1 : i0.size = 1) (w5 : World) (b : List Int) : Src Try.prog i0.size 94 (.slice (some ⟨w5.heap.size, 0, none⟩) 1 1) [strV b].length [strV b] (w5.alloc (.cells #[strV b] 9)) := by
  rw [hz1]
  refine Src.ofSlice _ Try.underlying94 _ 1 1 _ (by simp) (fun j u hj => ?_) (by intro u hu; simp at hu; subst hu; rfl)
  cases j with
  | zero =>
    simp at hj
    subst hj
    rw [add_at]
    exact cl_of (al_at _ _) 0
  | succ j => simp at hj
section
variable {w W w5 w7 w9 : World} {a a5 : Option Addr} {c m c5 n : Nat} {S : List (List Int)} {b : List Int}
/-- The first append: sorted[:at], b. -/
theorem SortK.one (h : SortK w W a c S) (hn : n ≤ S.length) (b5 : But [] W w5) (o5 : OwnQ w5 9 (.slice a5 m c5) ((S.drop n).map strV)) (l5 : ∀ x, (Value.slice a5 m c5).ownBlock = some x → W.heap.size ≤ x) {v7 : Value}
    (hap : Appended (w5.alloc (.cells #[strV b] 9)) w7 9 (.slice a n c) v7 ((S.take n).map strV) [strV b]) :
    ∃ a7 c7, v7 = .slice a7 (n + 1) c7 ∧ OwnQ w7 9 (.slice a7 (n + 1) c7) ((S.take n ++ [b]).map strV) ∧ (∀ x, (Value.slice a7 (n + 1) c7).ownBlock = some x → w.heap.size ≤ x ∧ (Value.slice a5 m c5).ownBlock ≠ some x) ∧ OwnQ w7 9 (.slice a5 m c5) ((S.drop n).map strV) ∧ But [] w w7 := by
  obtain ⟨hq, hc⟩ := hap
  obtain ⟨a7, c7, e⟩ := hq.form
  have hl : ((S.take n).map strV ++ [strV b]).length = n + 1 := by simp; omega
  rw [hl] at e
  subst e
  have hbA : But [] W (w5.alloc (.cells #[strV b] 9)) := b5.trans ((But.refl [] _).alloc _) (by simp)
  have o5A : OwnQ (w5.alloc (.cells #[strV b] 9)) 9 (.slice a5 m c5) ((S.drop n).map strV) := o5.but ((But.refl [] _).alloc _) (by simp)
  have hmap : (S.take n).map strV ++ [strV b] = (S.take n ++ [b]).map strV := by simp
  rw [hmap] at hq
  have hlow : ∀ x, (Value.slice a S.length c).ownBlock = some x → x < W.heap.size := fun x hx => h.own.lt hx
  rcases hc with ⟨a0, cap, q1, q2, _, hb⟩ | ⟨hnew, hb⟩
  · have e2 : ∀ x, (Value.slice a7 (n + 1) c7).ownBlock = some x → (Value.slice a S.length c).ownBlock = some x := fun x hx => by
      simp only [Value.slice.injEq] at q1 q2
      obtain ⟨rfl, _, rfl⟩ := q1
      obtain ⟨rfl, _, rfl⟩ := q2
      exact (own_addr _ _ _ _ _).trans hx
    have e3 : ∀ x, x ∈ (Value.slice a n c).ownBlock.toList → (Value.slice a S.length c).ownBlock = some x := fun x hx => by
      have : (Value.slice a n c).ownBlock = some x := by simpa using hx
      exact (own_addr _ _ _ _ _).trans this
    refine ⟨a7, c7, rfl, hq, fun x hx => ⟨h.low x (e2 x hx), fun h5 => ?_⟩, o5A.but hb (fun x hx hm => ?_), (h.but.trans hbA (by simp)).trans hb (fun x hx => .inr (h.low x (e3 x hx)))⟩
    · have := l5 x h5; have := hlow x (e2 x hx); omega
    · have := l5 x hx; have := hlow x (e3 x hm); omega
  · refine ⟨a7, c7, rfl, hq, fun x hx => ?_, o5A.but hb (by simp), (h.but.trans hbA (by simp)).trans hb (by simp)⟩
    rw [hnew] at hx
    cases hx
    exact ⟨Nat.le_trans h.but.size hbA.size, fun h5 => by have := o5A.lt h5; omega⟩
/-- The second append: what stood behind. -/
theorem SortK.two {a7 : Option Addr} {c7 : Nat} (hn : n ≤ S.length) (hins : insS S b = S.take n ++ b :: S.drop n) (hq : OwnQ w7 9 (.slice a7 (n + 1) c7) ((S.take n ++ [b]).map strV)) (hlow : ∀ x, (Value.slice a7 (n + 1) c7).ownBlock = some x → w.heap.size ≤ x) (hb7 : But [] w w7) {v9 : Value}
    (hap : Appended w7 w9 9 (.slice a7 (n + 1) c7) v9 ((S.take n ++ [b]).map strV) ((S.drop n).map strV)) : ∃ a9 c9, v9 = .slice a9 (insS S b).length c9 ∧ SortK w w9 a9 c9 (insS S b) := by
  obtain ⟨hq9, hc⟩ := hap
  obtain ⟨a9, c9, e⟩ := hq9.form
  have hmap : (S.take n ++ [b]).map strV ++ (S.drop n).map strV = (insS S b).map strV := by rw [hins]; simp
  rw [hmap] at hq9 e
  rw [List.length_map] at e
  subst e
  rcases hc with ⟨a0, cap, q1, q2, _, hb⟩ | ⟨hnew, hb⟩
  · refine ⟨a9, c9, rfl, hq9, fun x hx => hlow x ?_, hb7.trans hb (fun x hx => .inr (hlow x (by simpa using hx)))⟩
    simp only [Value.slice.injEq] at q1 q2
    obtain ⟨rfl, _, rfl⟩ := q1
    obtain ⟨rfl, _, rfl⟩ := q2
    exact (own_addr _ _ _ _ _).trans hx
  · refine ⟨a9, c9, rfl, hq9, fun x hx => ?_, hb7.trans hb (by simp)⟩
    rw [hnew] at hx
    cases hx
    exact hb7.size
end
end Go.Proofs.Ytpoinhfkgnkedaa.M
namespace Go.Proofs.Ytpoinhfkgnkedaa.M
open Go.RowKit
set_option linter.unusedVariables false
set_option linter.unusedSectionVars false
set_option linter.unusedSimpArgs false
/-- A row of signs that is a right key's. -/
def SignK (K : Nat) (cs : List Int) : Prop := ∃ π : List Int, cs = chs π ∧ (∀ b ∈ π, b = 0 ∨ b = 1) ∧ π.length ≤ 8 * (K - 4)
def headR (K n : Nat) : List Int := [((n : Nat) : Int) % 256, ((n : Nat) : Int) / 256 % 256, 0, 0] ++ List.replicate (K - 4) 0
theorem rowR_eq (K : Nat) (π : List Int) : rowR K π = putAll (headR K π.length) 0 π := rfl
theorem headR_len {K : Nat} (n : Nat) (hK : 5 ≤ K) : (headR K n).length = K := by simp [headR]; omega
theorem headR_byte (K n : Nat) : ByteL (headR K n) := fun x hx => by
  unfold headR at hx
  rcases List.mem_append.1 hx with hx | hx
  · simp only [List.mem_cons, List.not_mem_nil, or_false] at hx
    rcases hx with rfl | rfl | rfl | rfl <;> omega
  · obtain ⟨_, rfl⟩ := List.mem_replicate.1 hx
    omega
theorem headR_set {K : Nat} (n : Nat) (hK : 5 ≤ K) : ((List.replicate K (0 : Int)).set 0 ((n : Int) % 256)).set 1 ((n : Int) / 256 % 256) = headR K n := by
  obtain ⟨m, rfl⟩ : ∃ m, K = m + 4 := ⟨K - 4, by omega⟩
  simp only [headR, List.replicate_succ, List.set_cons_zero, List.set_cons_succ, Nat.add_sub_cancel, List.cons_append, List.nil_append]
theorem putAll_byte {K n : Nat} (hK : 5 ≤ K) {π : List Int} (h : ∀ b ∈ π, b = 0 ∨ b = 1) (hl : π.length ≤ 8 * (K - 4)) (k : Nat) : ByteL (putAll (headR K n) 0 (π.take k)) :=
  (putAll_spec _ _ _ (headR_byte K n) (fun x hx => h x (List.mem_of_mem_take hx)) (by rw [headR_len n hK, List.length_take]; omega)).1
theorem or_zero : ∀ n : Nat, n < 256 → bits .or .u8 (n : Int) 0 = n := by decide +kernel
theorem putBit_zero {o : List Int} (h : ByteL o) (k : Nat) : putBit o k 0 = o := by
  unfold putBit
  rw [Int.zero_mul]
  obtain ⟨n, hn⟩ := Int.eq_ofNat_of_zero_le (getD_byte h (4 + k / 8)).1
  have h2 := (getD_byte h (4 + k / 8)).2
  rw [hn] at h2 ⊢
  rw [or_zero n (by omega), ← hn]
  refine List.ext_getElem? fun i => ?_
  rw [List.getElem?_set]
  split
  · rename_i e
    subst e
    split
    · rename_i hl
      rw [List.getD_eq_getElem?_getD, List.getElem?_eq_getElem hl]
      rfl
    · rename_i hl
      rw [List.getElem?_eq_none (by omega)]
  · rfl
theorem mk_bit : ∀ j, j < 8 → (128 : Int) / 2 ^ j = 1 * 2 ^ (7 - j) := by decide
/-- One round of the loop that puts the bits. -/
theorem putAll_next {K n k : Nat} {π : List Int} {x : Int} (hx : π[k]? = some x) : putAll (headR K n) 0 (π.take (k + 1)) = putBit (putAll (headR K n) 0 (π.take k)) k x := by
  have hk := (List.getElem?_eq_some_iff.1 hx).1
  rw [List.take_add_one, hx]
  show putAll _ 0 (π.take k ++ [x]) = _
  rw [putAll_snoc, List.length_take, Nat.min_eq_left (by omega), Nat.zero_add]
theorem putAll_atR {K n k : Nat} (hK : 5 ≤ K) (pre : List Int) (hk : 4 + k / 8 < K) : ∃ y, (putAll (headR K n) 0 pre)[4 + k / 8]? = some y ∧ (putAll (headR K n) 0 pre).getD (4 + k / 8) 0 = y := by
  have h1 : 4 + k / 8 < (putAll (headR K n) 0 pre).length := by rw [putAll_len, headR_len n hK]; exact hk
  refine ⟨_, List.getElem?_eq_getElem h1, ?_⟩
  rw [List.getD_eq_getElem?_getD, List.getElem?_eq_getElem h1]
  rfl
/-- The row as it lies in the loop. -/
structure RowI (w W : World) (B K : Nat) (π : List Int) (k : Nat) : Prop where
  row : W.heap[B]? = some (.cells (u8s (putAll (headR K π.length) 0 (π.take k))).toArray 5)
  but : But [] w W
theorem RowI.zero {w W : World} {B K : Nat} {π : List Int} (h1 : W.heap[B]? = some (.cells (u8s (headR K π.length)).toArray 5)) (h2 : But [] w W) : RowI w W B K π 0 := ⟨h1, h2⟩
theorem RowI.pass {w W : World} {B K : Nat} {π : List Int} {k : Nat} (h : RowI w W B K π k) (hK : 5 ≤ K) (h01 : ∀ b ∈ π, b = 0 ∨ b = 1) (hl : π.length ≤ 8 * (K - 4)) (hx : π[k]? = some 0) : RowI w W B K π (k + 1) :=
  ⟨by rw [putAll_next hx, putBit_zero (putAll_byte hK h01 hl k)]; exact h.row, h.but⟩
theorem RowI.turn {w W : World} {B K : Nat} {π : List Int} {k : Nat} {y mk : Int} (h : RowI w W B K π k) (hB : w.heap.size ≤ B) (hx : π[k]? = some 1) (hy : (putAll (headR K π.length) 0 (π.take k)).getD (4 + k / 8) 0 = y) (hmk : mk = 128 / 2 ^ (k % 8)) : RowI w (W.setCell ⟨B, 4 + k / 8, none⟩ (.int .u8 (bits .or .u8 y mk))) B K π (k + 1) := by
  refine ⟨?_, h.but.trans ((But.refl _ _).setCell (L := [B]) (.inl (by simp)) _) (fun x hx => .inr (by simp at hx; omega))⟩
  rw [putAll_next hx, putBit, hy, ← mk_bit (k % 8) (by omega), ← hmk]
  simp [World.setCell, Array.getElem?_modify, h.row, u8s, List.map_set]
/-- The rows that were told so far. -/
structure KeyT (w W : World) (K : Nat) (S : List (List Int)) (k : Nat) (a : Option Addr) (c : Nat) (vals : List Value) : Prop where
  own : OwnQ W 26 (.slice a vals.length c) vals
  len : vals.length = k
  low : ∀ b, (Value.slice a vals.length c).ownBlock = some b → w.heap.size ≤ b
  each : ∀ (i : Nat) (v : Value) (x : List Int), vals[i]? = some v → S[i]? = some x → NewRow w W v (rowR K (unchs x))
  but : But [] w W
theorem KeyT.nil (w : World) (K : Nat) (S : List (List Int)) : KeyT w w K S 0 none 0 [] := ⟨OwnQ.nil _ _, rfl, fun b h => (by cases h), fun i v x h => (by simp at h), But.refl _ _⟩
theorem KeyT.step {w W Wz wz w7 : World} {K : Nat} {S : List (List Int)} {k : Nat} {a : Option Addr} {c : Nat} {vals : List Value} {v v' : Value} {x : List Int} (h : KeyT w W K S k a c vals) (hx : S[k]? = some x) (hz : But [] W Wz) (hrow : NewRow w Wz v (rowR K (unchs x))) (hzz : But [] Wz wz)
    (hap : Appended wz w7 26 (.slice a vals.length c) v' vals [v]) :
    ∃ a7 c7, v' = .slice a7 (vals ++ [v]).length c7 ∧ KeyT w w7 K S (k + 1) a7 c7 (vals ++ [v]) := by
  have hzW : But [] W wz := hz.trans hzz (by simp)
  obtain ⟨hq, hc⟩ := hap
  obtain ⟨a7, c7, e⟩ := hq.form
  subst e
  have hb7 : But (Value.slice a vals.length c).ownBlock.toList W w7 := by
    rcases hc with ⟨_, _, _, _, _, hb⟩ | ⟨_, hb⟩
    · exact (hzW.mono (by simp)).trans hb (fun x h => .inl h)
    · exact (hzW.trans hb (by simp)).mono (by simp)
  have hb7z : But (Value.slice a vals.length c).ownBlock.toList wz w7 := by
    rcases hc with ⟨_, _, _, _, _, hb⟩ | ⟨_, hb⟩
    · exact hb
    · exact hb.mono (by simp)
  have hno : ∀ y ∈ (Value.slice a vals.length c).ownBlock.toList, ∀ C f, W.heap[y]? ≠ some (.cells C 5 f) := fun y hy C f e => by
    obtain ⟨cur, hg⟩ := h.own.tag y (by simpa using hy)
    rw [hg] at e
    simp only [Option.some.injEq, Obj.cells.injEq] at e
    exact absurd e.2.1 (by decide)
  have hlow7 : ∀ b, (Value.slice a7 (vals ++ [v]).length c7).ownBlock = some b → w.heap.size ≤ b := fun b hb => by
    rcases hc with ⟨a2, cap, e1, e2, _, _⟩ | ⟨hnew, _⟩
    · simp only [Value.slice.injEq] at e1 e2
      obtain ⟨rfl, _, rfl⟩ := e1
      obtain ⟨rfl, _, rfl⟩ := e2
      exact h.low b ((kt_addr _ _ _ _ _).trans hb)
    · rw [hnew] at hb
      cases hb
      exact Nat.le_trans h.but.size hzW.size
  have hnoz : ∀ y ∈ (Value.slice a vals.length c).ownBlock.toList, ∀ C f, Wz.heap[y]? ≠ some (.cells C 5 f) := fun y hy C f e => by
    obtain ⟨cur, hg⟩ := (h.own.but hz (by simp)).tag y (by simpa using hy)
    rw [hg] at e
    simp only [Option.some.injEq, Obj.cells.injEq] at e
    exact absurd e.2.1 (by decide)
  have hl : (vals ++ [v]).length = vals.length + 1 := by rw [List.length_append]; rfl
  refine ⟨a7, c7, rfl, hq, by rw [hl, h.len], hlow7, fun i u y hu hy => ?_, h.but.trans hb7 (fun x hx => .inr (h.low x (by simpa using hx)))⟩
  by_cases hi : i < vals.length
  · rw [List.getElem?_append_left hi] at hu
    exact (h.each i u y hu hy).but hb7 hno
  · rw [List.getElem?_append_right (by omega)] at hu
    cases hii : i - vals.length with
    | zero =>
      rw [hii] at hu
      simp at hu
      subst hu
      have e : i = k := by have := h.len; omega
      subst e
      rw [hx] at hy
      cases hy
      exact hrow.but ((hzz.mono (by simp)).trans hb7z (fun x h => .inl h)) hnoz
    | succ m => rw [hii] at hu; simp at hu
theorem KeyT.sees {w W : World} {K : Nat} {S : List (List Int)} {a : Option Addr} {c : Nat} {vals : List Value} (h : KeyT w W K S S.length a c vals) : SeesRows W (.slice a S.length c) ((S.map fun cs => rowR K (unchs cs)).map u8s) := by
  refine ⟨vals, by rw [← h.len]; exact h.own.sees, by simp [h.len], fun i v r hv hr => ?_⟩
  rw [List.getElem?_map, List.getElem?_map] at hr
  cases hs : S[i]? with
  | none => rw [hs] at hr; cases hr
  | some x =>
    rw [hs] at hr
    simp only [Option.map_some, Option.some.injEq] at hr
    subst hr
    obtain ⟨a1, c1, rfl, h2, _⟩ := h.each i v x hv hs
    exact h2.sees
/-- A new row of zeros whose first two bytes are laid. -/
theorem head_heap {w : World} {K n : Nat} (hK : 5 ≤ K) {b0 b1 : Int} (h0 : b0 = (n : Int) % 256) (h1 : b1 = (n : Int) / 256 % 256) :
    (((w.alloc (.cells (madeCells #[.int .u8 0] K) 5)).setCell ⟨w.heap.size, 0, none⟩ (.int .u8 b0)).setCell ⟨w.heap.size, 1, none⟩ (.int .u8 b1)).heap[w.heap.size]? = some (.cells (u8s (headR K n)).toArray 5) ∧ But [] w (((w.alloc (.cells (madeCells #[.int .u8 0] K) 5)).setCell ⟨w.heap.size, 0, none⟩ (.int .u8 b0)).setCell ⟨w.heap.size, 1, none⟩ (.int .u8 b1)) := by
  have hz : madeCells #[.int .u8 0] K = (u8s (List.replicate K 0)).toArray := by rw [← zeros_u8]; simp [zeros]
  have hg : (w.alloc (.cells (madeCells #[.int .u8 0] K) 5)).heap[w.heap.size]? = some (.cells (u8s (List.replicate K 0)).toArray 5) := by rw [hz]; exact al_at w _
  refine ⟨?_, ?_⟩
  · rw [← headR_set n hK, ← h0, ← h1]
    obtain ⟨g, hgg⟩ : ∃ g, g = w.heap.size := ⟨_, rfl⟩
    rw [← hgg] at hg ⊢
    clear hgg
    generalize w.alloc (.cells (madeCells #[.int .u8 0] K) 5) = w1 at hg ⊢
    simp [World.setCell, Array.getElem?_modify, hg, u8s, List.map_set]
    refine Array.toList_inj.1 ?_
    simp
  · exact (((But.refl [w.heap.size] _).setCell (.inl (by simp)) _).setCell (.inl (by simp)) _ |> fun h => ((But.refl [] w).alloc _).trans h (fun x hx => .inr (by simp at hx; omega)))
theorem rowI_done {w W : World} {B K : Nat} {π : List Int} (h : RowI w W B K π π.length) (hK : 5 ≤ K ∧ K ≤ 36) (hB : w.heap.size ≤ B) : NewRow w W (.slice (some ⟨B, 0, none⟩) K K) (rowR K π) := by
  have hl : (rowR K π).length = K := by rw [rowR_eq, putAll_len, headR_len _ hK.1]
  have hr := h.row
  rw [List.take_of_length_le (Nat.le_refl _), ← rowR_eq] at hr
  refine ⟨some ⟨B, 0, none⟩, K, by rw [hl], ?_, fun b hb => by cases hb; exact hB⟩
  rw [hl]
  have hle : (u8s (rowR K π)).length = K := by rw [u8s_len, hl]
  refine .inr ⟨B, 0, K, (u8s (rowR K π)).toArray, by rw [hle], hr, by rw [hle]; exact Nat.le_refl _, by unfold maxLen; omega, by simp [hle], fun j u hj => ?_⟩
  simpa using hj
end Go.Proofs.Ytpoinhfkgnkedaa.M
