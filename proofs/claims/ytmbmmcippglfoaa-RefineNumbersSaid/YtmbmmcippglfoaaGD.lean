/-
  Merged: Pop, PopB, Ones.
-/
import Derived.Test.YtmbmmcippglfoaaGC
import Derived.Test.YtmbmmcippglfoaaSpA
import Derived.Laws.Bits128
namespace Go.Proofs.Ytmbmmcippglfoaa.M
open Go.RowKit
set_option linter.unusedVariables false
set_option linter.unusedSectionVars false
set_option linter.unusedSimpArgs false
def ofD (b : Nat) : List Nat → Nat
  | [] => 0
  | d :: l => d + b * ofD b l
def dig (b : Nat) : Nat → Nat → List Nat
  | 0, _ => []
  | n + 1, x => x % b :: dig b n (x / b)
def evens : List Nat → List Nat
  | [] => []
  | [d] => [d]
  | d :: _ :: l => d :: evens l
def addL : List Nat → List Nat → List Nat
  | [], l => l
  | l, [] => l
  | a :: l, b :: r => (a + b) :: addL l r
theorem ofD_dig (b n x : Nat) (hb : 0 < b) : ofD b (dig b n x) = x % b ^ n := by
  induction n generalizing x with
  | zero => simp [dig, ofD, Nat.mod_one]
  | succ n ih =>
    simp only [dig, ofD, ih]
    rw [Nat.pow_succ', Nat.mod_mul]
theorem ofD_add (b : Nat) : ∀ l r : List Nat, ofD b (addL l r) = ofD b l + ofD b r
  | [], l => by simp [addL, ofD]
  | a :: l, [] => by simp [addL, ofD]
  | a :: l, c :: r => by
    simp only [addL, ofD, ofD_add b l r, Nat.mul_add]
    omega
theorem and_split (k a r c m : Nat) (ha : a < 2 ^ k) (hc : c < 2 ^ k) : (a + 2 ^ k * r) &&& (c + 2 ^ k * m) = (a &&& c) + 2 ^ k * (r &&& m) := by
  have hac : a &&& c < 2 ^ k := Nat.lt_of_le_of_lt Nat.and_le_left ha
  apply Nat.eq_of_testBit_eq
  intro i
  rw [Nat.testBit_and, Nat.add_comm a, Nat.add_comm c, Nat.add_comm (a &&& c), Nat.testBit_two_pow_mul_add r ha, Nat.testBit_two_pow_mul_add m hc, Nat.testBit_two_pow_mul_add _ hac]
  split
  · rw [Nat.testBit_and]
  · rw [Nat.testBit_and]
/-- A mask takes each other figure. -/
theorem and_evens (k : Nat) : ∀ (l : List Nat) (n : Nat), (∀ d ∈ l, d < 2 ^ k) → l.length ≤ 2 * n → ofD (2 ^ k) l &&& ofD (2 ^ (2 * k)) (List.replicate n (2 ^ k - 1)) = ofD (2 ^ (2 * k)) (evens l)
  | [], n, _, _ => by simp [ofD, evens]
  | [d], n, h, hn => by
    obtain ⟨n, rfl⟩ : ∃ j, n = j + 1 := ⟨n - 1, by simp at hn; omega⟩
    have hd := h d (by simp)
    have hlt : 2 ^ k ≤ 2 ^ (2 * k) := Nat.pow_le_pow_right (by decide) (by omega)
    have hp := Nat.two_pow_pos k
    simp only [List.replicate_succ, ofD, evens]
    rw [show d + 2 ^ k * 0 = d + 2 ^ (2 * k) * 0 by simp, and_split _ _ _ _ _ (by omega) (by omega), Nat.zero_and, Nat.and_two_pow_sub_one_eq_mod, Nat.mod_eq_of_lt hd]
  | d :: e :: l, n, h, hn => by
    obtain ⟨n, rfl⟩ : ∃ j, n = j + 1 := ⟨n - 1, by simp at hn; omega⟩
    have hd := h d (by simp)
    have he := h e (by simp)
    have hp := Nat.two_pow_pos k
    have ih := and_evens k l n (fun x hx => h x (by simp [hx])) (by simp at hn; omega)
    simp only [List.replicate_succ, ofD, evens]
    have hsq : 2 ^ (2 * k) = 2 ^ k * 2 ^ k := by rw [Nat.two_mul, Nat.pow_add]
    have e1 : d + 2 ^ k * (e + 2 ^ k * ofD (2 ^ k) l) = (d + 2 ^ k * e) + 2 ^ (2 * k) * ofD (2 ^ k) l := by rw [hsq, Nat.mul_add, ← Nat.mul_assoc, Nat.add_assoc]
    have hde : d + 2 ^ k * e < 2 ^ (2 * k) := by
      rw [hsq]
      have : 2 ^ k * e + 2 ^ k ≤ 2 ^ k * 2 ^ k := by rw [← Nat.mul_succ]; exact Nat.mul_le_mul_left _ he
      omega
    have hm : 2 ^ k - 1 < 2 ^ (2 * k) := by rw [hsq]; have := Nat.mul_le_mul_left (2 ^ k) hp; omega
    rw [e1, and_split _ _ _ _ _ hde hm, ih, Nat.and_two_pow_sub_one_eq_mod, Nat.add_mul_mod_self_left, Nat.mod_eq_of_lt hd]
theorem sum_evens : ∀ l : List Nat, (evens l).sum + (evens l.tail).sum = l.sum
  | [] => rfl
  | [d] => by simp [evens]
  | [d, e] => by simp [evens]
  | d :: e :: f :: l => by
    have ih := sum_evens (f :: l)
    simp only [evens, List.tail_cons, List.sum_cons] at ih ⊢
    cases l with
    | nil => simp [evens] at ih ⊢; omega
    | cons g l => simp only [evens, List.sum_cons] at ih ⊢; omega
theorem sum_addL : ∀ l r : List Nat, (addL l r).sum = l.sum + r.sum
  | [], l => by simp [addL]
  | a :: l, [] => by simp [addL]
  | a :: l, c :: r => by simp only [addL, List.sum_cons, sum_addL l r]; omega
def popN (x : Nat) : Nat := (dig 2 64 x).sum
theorem dig_lt (b n x : Nat) (hb : 0 < b) : ∀ d ∈ dig b n x, d < b := by
  induction n generalizing x with
  | zero => intro d hd; cases hd
  | succ n ih =>
    intro d hd
    simp only [dig, List.mem_cons] at hd
    rcases hd with rfl | hd
    · exact Nat.mod_lt _ hb
    · exact ih _ d hd
theorem dig_len (b n x : Nat) : (dig b n x).length = n := by
  induction n generalizing x with
  | zero => rfl
  | succ n ih => simp [dig, ih]
theorem evens_mem : ∀ (l : List Nat) (d : Nat), d ∈ evens l → d ∈ l
  | [], d, h => by simp [evens] at h
  | [e], d, h => by simpa [evens] using h
  | e :: f :: l, d, h => by
    simp only [evens, List.mem_cons] at h ⊢
    rcases h with h | h
    · exact .inl h
    · exact .inr (.inr (evens_mem l d h))
theorem evens_len : ∀ l : List Nat, (evens l).length = (l.length + 1) / 2
  | [] => rfl
  | [e] => by simp [evens]
  | e :: f :: l => by simp only [evens, List.length_cons, evens_len l]; omega
theorem addL_len : ∀ l r : List Nat, (addL l r).length = max l.length r.length
  | [], l => by simp [addL]
  | a :: l, [] => by simp [addL]
  | a :: l, c :: r => by simp only [addL, List.length_cons, addL_len l r]; omega
theorem addL_lt (p q : Nat) : ∀ l r : List Nat, (∀ d ∈ l, d ≤ p) → (∀ d ∈ r, d ≤ q) → ∀ d ∈ addL l r, d ≤ p + q
  | [], l, _, h, d, hd => by simp only [addL] at hd; have := h d hd; omega
  | a :: l, [], h, _, d, hd => by simp only [addL] at hd; have := h d hd; omega
  | a :: l, c :: r, h1, h2, d, hd => by
    simp only [addL, List.mem_cons] at hd
    rcases hd with rfl | hd
    · have := h1 a (by simp); have := h2 c (by simp); omega
    · exact addL_lt p q l r (fun x hx => h1 x (by simp [hx])) (fun x hx => h2 x (by simp [hx])) d hd
theorem ofD_tail (b : Nat) (hb : 0 < b) : ∀ l : List Nat, (∀ d ∈ l, d < b) → ofD b l / b = ofD b l.tail
  | [], _ => by simp [ofD]
  | d :: l, h => by
    have hd := h d (by simp)
    simp only [ofD, List.tail_cons]
    rw [Nat.add_mul_div_left _ _ hb, Nat.div_eq_of_lt hd, Nat.zero_add]
/-- One step of the count: figures of twice as many bits, each the sum of two. -/
theorem pop_step (k n : Nat) (l : List Nat) (h : ∀ d ∈ l, d < 2 ^ k) (hl : l.length ≤ 2 * n) : (ofD (2 ^ k) l / 2 ^ k &&& ofD (2 ^ (2 * k)) (List.replicate n (2 ^ k - 1))) + (ofD (2 ^ k) l &&& ofD (2 ^ (2 * k)) (List.replicate n (2 ^ k - 1))) = ofD (2 ^ (2 * k)) (addL (evens l.tail) (evens l)) := by
  rw [ofD_tail _ (Nat.two_pow_pos _) l h, and_evens k l n h hl, and_evens k l.tail n (fun d hd => h d (List.mem_of_mem_tail hd)) (by simp; omega), ofD_add]
def pc1 (x : Nat) : Nat := uand (x / 2) 6148914691236517205 + uand x 6148914691236517205
def pc2 (x : Nat) : Nat := uand (x / 4) 3689348814741910323 + uand x 3689348814741910323
def pc3 (x : Nat) : Nat := uand (x / 16 + x) 1085102592571150095
def pc4 (x : Nat) : Nat := x + x / 256
def pc5 (x : Nat) : Nat := x + x / 65536
def pc6 (x : Nat) : Nat := x + x / 4294967296
theorem sum_pairs : ∀ l : List Nat, l.length % 2 = 0 → (evens (addL l.tail l)).sum = l.sum
  | [], _ => rfl
  | [d], h => by simp at h
  | [d, e], _ => by simp [addL, evens]; omega
  | [d, e, f], h => by simp at h
  | d :: e :: f :: g :: r, h => by
    have ih := sum_pairs (f :: g :: r) (by simp at h ⊢; omega)
    simp only [List.tail_cons, addL, evens, List.sum_cons] at ih ⊢
    omega
theorem ofD_lt (b : Nat) (hb : 0 < b) : ∀ l : List Nat, (∀ d ∈ l, d < b) → ofD b l < b ^ l.length
  | [], _ => by simp [ofD]
  | d :: l, h => by
    have h1 := h d (by simp)
    have h2 := ofD_lt b hb l (fun x hx => h x (by simp [hx]))
    simp only [ofD, List.length_cons, Nat.pow_succ']
    have h3 : b * ofD b l + b ≤ b * b ^ l.length := by rw [← Nat.mul_succ]; exact Nat.mul_le_mul_left _ h2
    omega
theorem uand_small {a b : Nat} (h : b < 18446744073709551616) : uand a b = a &&& b := by
  unfold uand
  exact Nat.mod_eq_of_lt (Nat.lt_of_le_of_lt Nat.and_le_right h)
theorem pop_all (x : Nat) (hx : x < 18446744073709551616) : ∃ c0 c1 c2 c3 c4 c5 c6 c7 : Nat, c0 ≤ 8 ∧ c1 ≤ 8 ∧ c2 ≤ 8 ∧ c3 ≤ 8 ∧ c4 ≤ 8 ∧ c5 ≤ 8 ∧ c6 ≤ 8 ∧ c7 ≤ 8 ∧ pc3 (pc2 (pc1 x)) = c0 + 256 * (c1 + 256 * (c2 + 256 * (c3 + 256 * (c4 + 256 * (c5 + 256 * (c6 + 256 * c7)))))) ∧ popN x = c0 + c1 + c2 + c3 + c4 + c5 + c6 + c7 ∧ pc1 x < 18446744073709551616 ∧ pc2 (pc1 x) < 18446744073709551616 ∧ pc2 (pc1 x) / 16 + pc2 (pc1 x) < 18446744073709551616 := by
  have h0 : ofD 2 (dig 2 64 x) = x := by rw [ofD_dig 2 64 x (by decide)]; exact Nat.mod_eq_of_lt hx
  obtain ⟨l0, hl0⟩ : ∃ l, l = dig 2 64 x := ⟨_, rfl⟩
  have b0 : ∀ d ∈ l0, d < 2 := by rw [hl0]; exact dig_lt 2 64 x (by decide)
  have n0 : l0.length = 64 := by rw [hl0]; exact dig_len _ _ _
  rw [← hl0] at h0
  have s1 := pop_step 1 32 l0 b0 (by omega)
  obtain ⟨l1, hl1⟩ : ∃ l, l = addL (evens l0.tail) (evens l0) := ⟨_, rfl⟩
  rw [← hl1] at s1
  have b1 : ∀ d ∈ l1, d ≤ 2 := by
    rw [hl1]
    exact addL_lt 1 1 _ _ (fun d hd => by have := b0 d (List.mem_of_mem_tail (evens_mem _ _ hd)); omega) (fun d hd => by have := b0 d (evens_mem _ _ hd); omega)
  have n1 : l1.length = 32 := by rw [hl1, addL_len, evens_len, evens_len, List.length_tail]; omega
  have m1 : ofD 4 (List.replicate 32 1) = 6148914691236517205 := by decide +kernel
  have e1 : pc1 x = ofD 4 l1 := by
    unfold pc1
    rw [uand_small (by decide), uand_small (by decide), ← m1, ← h0]
    exact s1
  have s2 := pop_step 2 16 l1 (fun d hd => by have := b1 d hd; simp; omega) (by omega)
  obtain ⟨l2, hl2⟩ : ∃ l, l = addL (evens l1.tail) (evens l1) := ⟨_, rfl⟩
  rw [← hl2] at s2
  have b2 : ∀ d ∈ l2, d ≤ 4 := by
    rw [hl2]
    exact addL_lt 2 2 _ _ (fun d hd => b1 d (List.mem_of_mem_tail (evens_mem _ _ hd))) (fun d hd => b1 d (evens_mem _ _ hd))
  have n2 : l2.length = 16 := by rw [hl2, addL_len, evens_len, evens_len, List.length_tail]; omega
  have m2 : ofD 16 (List.replicate 16 3) = 3689348814741910323 := by decide +kernel
  have e2 : pc2 (pc1 x) = ofD 16 l2 := by
    unfold pc2
    rw [uand_small (by decide), uand_small (by decide), ← m2, e1]
    exact s2
  have t2 := ofD_tail 16 (by decide) l2 (fun d hd => by have := b2 d hd; omega)
  obtain ⟨l3, hl3⟩ : ∃ l, l = addL l2.tail l2 := ⟨_, rfl⟩
  have b3 : ∀ d ∈ l3, d ≤ 8 := by
    rw [hl3]
    exact addL_lt 4 4 _ _ (fun d hd => b2 d (List.mem_of_mem_tail hd)) (fun d hd => b2 d hd)
  have n3 : l3.length = 16 := by rw [hl3, addL_len, List.length_tail]; omega
  have m3 : ofD 256 (List.replicate 8 15) = 1085102592571150095 := by decide +kernel
  have e30 : pc2 (pc1 x) / 16 + pc2 (pc1 x) = ofD 16 l3 := by rw [hl3, ofD_add, ← t2, e2]
  have s3 := and_evens 4 l3 8 (fun d hd => by have := b3 d hd; simp; omega) (by omega)
  have e3 : pc3 (pc2 (pc1 x)) = ofD 256 (evens l3) := by
    unfold pc3
    rw [uand_small (by decide), ← m3, e30]
    exact s3
  have hs : (evens l3).sum = popN x := by
    have q1 : l1.sum = l0.sum := by rw [hl1, sum_addL, Nat.add_comm]; exact sum_evens _
    have q2 : l2.sum = l1.sum := by rw [hl2, sum_addL, Nat.add_comm]; exact sum_evens _
    rw [hl3, sum_pairs l2 (by omega), q2, q1, hl0]
    rfl
  have p1 := ofD_lt 4 (by decide) l1 (fun d hd => by have := b1 d hd; omega)
  have p2 := ofD_lt 16 (by decide) l2 (fun d hd => by have := b2 d hd; omega)
  have p3 := ofD_lt 16 (by decide) l3 (fun d hd => by have := b3 d hd; omega)
  rw [n1] at p1
  rw [n2] at p2
  rw [n3] at p3
  have hlen : (evens l3).length = 8 := by rw [evens_len]; omega
  have hb : ∀ d ∈ evens l3, d ≤ 8 := fun d hd => b3 d (evens_mem _ _ hd)
  generalize evens l3 = r at hlen hb hs e3
  match r, hlen with
  | [c0, c1, c2, c3, c4, c5, c6, c7], _ =>
    refine ⟨c0, c1, c2, c3, c4, c5, c6, c7, hb c0 (by simp), hb c1 (by simp), hb c2 (by simp), hb c3 (by simp), hb c4 (by simp), hb c5 (by simp), hb c6 (by simp), hb c7 (by simp), ?_, ?_, ?_, ?_, ?_⟩
    · rw [e3]; simp only [ofD, Nat.mul_zero, Nat.add_zero]
    · rw [← hs]; simp only [List.sum_cons, List.sum_nil, Nat.add_zero, Nat.add_assoc]
    · rw [e1]; exact p1
    · rw [e2]; exact p2
    · rw [e30]; exact p3
end Go.Proofs.Ytmbmmcippglfoaa.M
namespace Go.Proofs.Ytmbmmcippglfoaa.M
open Go.RowKit
set_option linter.unusedVariables false
set_option linter.unusedSectionVars false
set_option linter.unusedSimpArgs false
theorem pe_a (c0 c1 c2 c3 c4 c5 c6 c7 : Nat) (h0 : c0 ≤ 8) : pc4 (c0 + 256 * (c1 + 256 * (c2 + 256 * (c3 + 256 * (c4 + 256 * (c5 + 256 * (c6 + 256 * (c7)))))))) = (c0 + c1) + 256 * ((c1 + c2) + 256 * ((c2 + c3) + 256 * ((c3 + c4) + 256 * ((c4 + c5) + 256 * ((c5 + c6) + 256 * ((c6 + c7) + 256 * ((c7)))))))) := by
  have h : c0 < 256 := by omega
  clear h0
  unfold pc4
  rw [Nat.add_mul_div_left _ _ (by decide), Nat.div_eq_of_lt h]
  omega
theorem pe_b (c0 c1 c2 c3 c4 c5 c6 c7 : Nat) (h0 : c0 ≤ 8) (h1 : c1 ≤ 8) (h2 : c2 ≤ 8) (h3 : c3 ≤ 8) (h4 : c4 ≤ 8) (h5 : c5 ≤ 8) (h6 : c6 ≤ 8) (h7 : c7 ≤ 8) : pc5 ((c0 + c1) + 256 * ((c1 + c2) + 256 * ((c2 + c3) + 256 * ((c3 + c4) + 256 * ((c4 + c5) + 256 * ((c5 + c6) + 256 * ((c6 + c7) + 256 * ((c7))))))))) = (c0 + c1 + c2 + c3) + 256 * ((c1 + c2 + c3 + c4) + 256 * ((c2 + c3 + c4 + c5) + 256 * ((c3 + c4 + c5 + c6) + 256 * ((c4 + c5 + c6 + c7) + 256 * ((c5 + c6 + c7) + 256 * ((c6 + c7) + 256 * ((c7)))))))) := by
  have h : (c0 + c1) + 256 * (c1 + c2) < 65536 := by omega
  clear h0 h1 h2 h3 h4 h5 h6 h7
  have e : (c0 + c1) + 256 * ((c1 + c2) + 256 * ((c2 + c3) + 256 * ((c3 + c4) + 256 * ((c4 + c5) + 256 * ((c5 + c6) + 256 * ((c6 + c7) + 256 * ((c7)))))))) = ((c0 + c1) + 256 * (c1 + c2)) + 65536 * ((c2 + c3) + 256 * ((c3 + c4) + 256 * ((c4 + c5) + 256 * ((c5 + c6) + 256 * ((c6 + c7) + 256 * ((c7))))))) := by omega
  rw [e]
  unfold pc5
  rw [Nat.add_mul_div_left _ _ (by decide), Nat.div_eq_of_lt h]
  omega
theorem pe_c (L H : Nat) (h : L < 4294967296) : pc6 (L + 4294967296 * H) = (L + H) + 4294967296 * H := by
  unfold pc6
  rw [Nat.add_mul_div_left _ _ (by decide), Nat.div_eq_of_lt h]
  omega
theorem pe_m (s K H : Nat) (h : s ≤ 64) : (s + 256 * K + 4294967296 * H) % 128 = s := by omega
theorem pe_e (c0 c1 c2 c3 c4 c5 c6 c7 : Nat) : (c0 + c1 + c2 + c3) + 256 * ((c1 + c2 + c3 + c4) + 256 * ((c2 + c3 + c4 + c5) + 256 * ((c3 + c4 + c5 + c6) + 256 * ((c4 + c5 + c6 + c7) + 256 * ((c5 + c6 + c7) + 256 * ((c6 + c7) + 256 * ((c7)))))))) = ((c0 + c1 + c2 + c3) + 256 * ((c1 + c2 + c3 + c4) + 256 * ((c2 + c3 + c4 + c5) + 256 * ((c3 + c4 + c5 + c6))))) + 4294967296 * ((c4 + c5 + c6 + c7) + 256 * ((c5 + c6 + c7) + 256 * ((c6 + c7) + 256 * ((c7))))) := by omega
theorem pe_k (c0 c1 c2 c3 c4 c5 c6 c7 : Nat) : ((c0 + c1 + c2 + c3) + 256 * ((c1 + c2 + c3 + c4) + 256 * ((c2 + c3 + c4 + c5) + 256 * ((c3 + c4 + c5 + c6))))) + ((c4 + c5 + c6 + c7) + 256 * ((c5 + c6 + c7) + 256 * ((c6 + c7) + 256 * ((c7))))) = (c0 + c1 + c2 + c3 + c4 + c5 + c6 + c7) + 256 * ((c1 + c2 + c3 + c4 + c5 + c6 + c7) + 256 * ((c2 + c3 + c4 + c5 + c6 + c7) + 256 * (c3 + c4 + c5 + c6 + c7))) := by omega
theorem pe_l (c0 c1 c2 c3 c4 c5 c6 c7 : Nat) (h0 : c0 ≤ 8) (h1 : c1 ≤ 8) (h2 : c2 ≤ 8) (h3 : c3 ≤ 8) (h4 : c4 ≤ 8) (h5 : c5 ≤ 8) (h6 : c6 ≤ 8) (h7 : c7 ≤ 8) : (c0 + c1) + 256 * ((c1 + c2) + 256 * ((c2 + c3) + 256 * ((c3 + c4) + 256 * ((c4 + c5) + 256 * ((c5 + c6) + 256 * ((c6 + c7) + 256 * ((c7)))))))) < 18446744073709551616 ∧ (c0 + c1 + c2 + c3) + 256 * ((c1 + c2 + c3 + c4) + 256 * ((c2 + c3 + c4 + c5) + 256 * ((c3 + c4 + c5 + c6)))) < 2155905153 ∧ (c4 + c5 + c6 + c7) + 256 * ((c5 + c6 + c7) + 256 * ((c6 + c7) + 256 * ((c7)))) < 1073741824 := by omega
theorem pe_n (L H : Nat) (h1 : L < 2155905153) (h2 : H < 1073741824) : L + 4294967296 * H < 18446744073709551616 ∧ (L + H) + 4294967296 * H < 9223372036854775808 := by omega
/-- The count's end. -/
theorem pop_end (x : Nat) (hx : x < 18446744073709551616) : pc6 (pc5 (pc4 (pc3 (pc2 (pc1 x))))) % 128 = popN x ∧ pc4 (pc3 (pc2 (pc1 x))) < 18446744073709551616 ∧ pc5 (pc4 (pc3 (pc2 (pc1 x)))) < 18446744073709551616 ∧ pc6 (pc5 (pc4 (pc3 (pc2 (pc1 x))))) < 9223372036854775808 := by
  obtain ⟨c0, c1, c2, c3, c4, c5, c6, c7, h0, h1, h2, h3, h4, h5, h6, h7, e, hp, _⟩ := pop_all x hx
  obtain ⟨l1, l2, l3⟩ := pe_l c0 c1 c2 c3 c4 c5 c6 c7 h0 h1 h2 h3 h4 h5 h6 h7
  have hs : (c0 + c1 + c2 + c3 + c4 + c5 + c6 + c7) ≤ 64 := by clear e hp l1 l2 l3; omega
  have a : pc4 (pc3 (pc2 (pc1 x))) = _ := (congrArg pc4 e).trans (pe_a c0 c1 c2 c3 c4 c5 c6 c7 h0)
  have b : pc5 (pc4 (pc3 (pc2 (pc1 x)))) = _ := (congrArg pc5 a).trans ((pe_b c0 c1 c2 c3 c4 c5 c6 c7 h0 h1 h2 h3 h4 h5 h6 h7).trans (pe_e c0 c1 c2 c3 c4 c5 c6 c7))
  have c : pc6 (pc5 (pc4 (pc3 (pc2 (pc1 x))))) = _ := (congrArg pc6 b).trans (pe_c _ _ (Nat.lt_trans l2 (by decide)))
  have n := pe_n _ _ l2 l3
  refine ⟨?_, a ▸ l1, b ▸ n.1, c ▸ n.2⟩
  rw [c, pe_k, pe_m _ _ _ hs, hp]
theorem popN_pow : ∀ k : Fin 64, popN (2 ^ k.val) = 1 ∧ single (2 ^ k.val) = true := by decide +kernel
theorem sum_zero : ∀ l : List Nat, l.sum = 0 → ofD 2 l = 0
  | [], _ => rfl
  | d :: l, h => by
    simp only [List.sum_cons] at h
    have := sum_zero l (by omega)
    simp only [ofD, this]
    omega
theorem sum_one : ∀ l : List Nat, l.sum = 1 → ∃ k, k < l.length ∧ ofD 2 l = 2 ^ k
  | [], h => by simp at h
  | d :: l, h => by
    simp only [List.sum_cons] at h
    by_cases hd : d = 0
    · obtain ⟨k, hk, e⟩ := sum_one l (by omega)
      exact ⟨k + 1, by simp; omega, by simp only [ofD, e, hd, Nat.pow_succ]; omega⟩
    · have := sum_zero l (by omega)
      exact ⟨0, by simp, by simp only [ofD, this, Nat.pow_zero]; omega⟩
theorem pop_zero (x : Nat) (hx : x < 18446744073709551616) : popN x = 0 ↔ x = 0 := by
  constructor
  · intro h
    have h0 : ofD 2 (dig 2 64 x) = x := by rw [ofD_dig 2 64 x (by decide)]; exact Nat.mod_eq_of_lt hx
    rw [← h0]
    exact sum_zero _ h
  · rintro rfl; decide +kernel
theorem pop_one (x : Nat) (hx : x < 18446744073709551616) : popN x = 1 ↔ single x = true := by
  constructor
  · intro h
    have h0 : ofD 2 (dig 2 64 x) = x := by rw [ofD_dig 2 64 x (by decide)]; exact Nat.mod_eq_of_lt hx
    obtain ⟨k, hk, e⟩ := sum_one _ h
    rw [dig_len] at hk
    rw [← h0, e]
    exact (popN_pow ⟨k, hk⟩).2
  · intro h
    obtain ⟨k, hk, rfl⟩ := single_pow hx h
    exact (popN_pow ⟨k, hk⟩).1
end Go.Proofs.Ytmbmmcippglfoaa.M
namespace Go.Proofs.Ytmbmmcippglfoaa.M
open Go.RowKit Go.Shelf
set_option linter.unusedVariables false
set_option linter.unusedSectionVars false
set_option linter.unusedSimpArgs false
theorem and_m0 (a : Nat) : bits .and .u64 (a : Int) 6148914691236517205 = ((uand a 6148914691236517205 : Nat) : Int) := bits_and a 6148914691236517205
theorem and_m1 (a : Nat) : bits .and .u64 (a : Int) 3689348814741910323 = ((uand a 3689348814741910323 : Nat) : Int) := bits_and a 3689348814741910323
theorem and_m2 (a : Nat) : bits .and .u64 (a : Int) 1085102592571150095 = ((uand a 1085102592571150095 : Nat) : Int) := bits_and a 1085102592571150095
theorem e_pc1 (x : Nat) (h : pc1 x < 18446744073709551616) : IntKind.u64.wrap (bits .and .u64 ((x : Int) / 2) 6148914691236517205 + bits .and .u64 (x : Int) 6148914691236517205) = ((pc1 x : Nat) : Int) := by
  rw [show ((x : Int) / 2) = ((x / 2 : Nat) : Int) from rfl, and_m0, and_m0, ← Int.natCast_add]
  exact wrapU _ h
theorem e_pc2 (x : Nat) (h : pc2 x < 18446744073709551616) : IntKind.u64.wrap (bits .and .u64 ((x : Int) / 4) 3689348814741910323 + bits .and .u64 (x : Int) 3689348814741910323) = ((pc2 x : Nat) : Int) := by
  rw [show ((x : Int) / 4) = ((x / 4 : Nat) : Int) from rfl, and_m1, and_m1, ← Int.natCast_add]
  exact wrapU _ h
theorem e_pc3 (x : Nat) (h : x / 16 + x < 18446744073709551616) : bits .and .u64 (IntKind.u64.wrap ((x : Int) / 16 + (x : Int))) 1085102592571150095 = ((pc3 x : Nat) : Int) := by
  rw [show ((x : Int) / 16) = ((x / 16 : Nat) : Int) from rfl, ← Int.natCast_add, wrapU _ h, and_m2]
  rfl
theorem e_pc4 (x : Nat) (h : pc4 x < 18446744073709551616) : IntKind.u64.wrap ((x : Int) + (x : Int) / 256) = ((pc4 x : Nat) : Int) := by
  rw [show ((x : Int) / 256) = ((x / 256 : Nat) : Int) from rfl, ← Int.natCast_add]
  exact wrapU _ h
theorem e_pc5 (x : Nat) (h : pc5 x < 18446744073709551616) : IntKind.u64.wrap ((x : Int) + (x : Int) / 65536) = ((pc5 x : Nat) : Int) := by
  rw [show ((x : Int) / 65536) = ((x / 65536 : Nat) : Int) from rfl, ← Int.natCast_add]
  exact wrapU _ h
theorem e_pc6 (x : Nat) (h : pc6 x < 9223372036854775808) : IntKind.u64.wrap ((x : Int) + (x : Int) / 4294967296) = ((pc6 x : Nat) : Int) := by
  rw [show ((x : Int) / 4294967296) = ((x / 4294967296 : Nat) : Int) from rfl, ← Int.natCast_add]
  exact wrapU _ (by unfold pc6 at h; omega)
set_option maxHeartbeats 4000000 in
theorem ones_c (x : Nat) (w : World) (hx : x < 18446744073709551616) : Calls Try.prog 90 #[.int .u64 x] w fun e w' => e = .returned (.int .i64 ((popN x : Nat) : Int)) ∧ w = w' := by
  go_enter Try.func90, Try.ntmps90
  go_wp2
  go_ret
  refine ⟨?_, rfl⟩
  obtain ⟨_, _, _, _, _, _, _, _, _, _, _, _, _, _, _, _, _, _, q1, q2, q3⟩ := pop_all x hx
  obtain ⟨p1, p2, p3, p4⟩ := pop_end x hx
  refine congrArg (fun n : Int => Ending.returned (Value.int IntKind.i64 n)) ?_
  rw [e_pc1 x q1, e_pc2 _ q2, e_pc3 _ q3, e_pc4 _ p2, e_pc5 _ p3, e_pc6 _ p4]
  rw [i64_and127, show wrap64 ((pc6 (pc5 (pc4 (pc3 (pc2 (pc1 x))))) : Nat) : Int) = ((pc6 (pc5 (pc4 (pc3 (pc2 (pc1 x))))) : Nat) : Int) by rw [wrap64]; omega, ← p1]
  rfl
end Go.Proofs.Ytmbmmcippglfoaa.M
