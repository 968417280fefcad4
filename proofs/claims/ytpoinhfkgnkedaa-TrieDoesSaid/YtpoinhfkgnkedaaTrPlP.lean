/-
  TriePlaces, plain; New of any make in two.
-/
import Derived.Test.YtpoinhfkgnkedaaTrKeysW
import Derived.Test.YtpoinhfkgnkedaaGP
namespace Go.Proofs.Ytpoinhfkgnkedaa.M
open Go.RowKit Go.Shelf
set_option linter.unusedVariables false
set_option linter.unusedSectionVars false
set_option linter.unusedSimpArgs false
theorem newTwo (k key val ent : Int) (w : World) (hk : (Lit.int .u8 k).wf = true) :
    (∃ E : Int, (E != 0) = true ∧ (E == 0) = false ∧ Calls Try.prog 9 #[.agg #[.int .u8 k, .int .i64 key, .int .i64 val, .int .i64 ent]] w fun e w' => e = .returned (.tuple #[.pointer none, .int .i64 E]) ∧ But [] w w') ∨
    (∃ K V N : Nat, key = K ∧ val = V ∧ ent = N ∧ Calls Try.prog 9 #[.agg #[.int .u8 k, .int .i64 key, .int .i64 val, .int .i64 ent]] w fun e w' => ∃ P S, e = .returned (.tuple #[.pointer (some ⟨P, 0, none⟩), .int .i64 0]) ∧ TO w w' S P K V N (fun _ => none) (List.replicate N (List.replicate V 0))) := by
  by_cases h0 : specE k key val ent = 0
  · by_cases h3 : k = 4
    · subst h3
      obtain ⟨hK, hV, hN⟩ := specE_trie h0
      obtain ⟨K, rfl⟩ : ∃ n : Nat, key = n := ⟨key.toNat, by omega⟩
      obtain ⟨V, rfl⟩ : ∃ n : Nat, val = n := ⟨val.toNat, by omega⟩
      obtain ⟨N, rfl⟩ : ∃ n : Nat, ent = n := ⟨ent.toNat, by omega⟩
      exact .inr ⟨K, V, N, rfl, rfl, rfl, newTO K V N w h0⟩
    · exact .inl ⟨9, rfl, rfl, newKind k key val ent w hk h0 (by simpa using h3)⟩
  · exact .inl ⟨_, by simpa using h0, by simpa using h0, newErr k key val ent _ w hk rfl (by simpa using h0)⟩
theorem free_none {N : Nat} (h : 1 ≤ N) : freeI (usedE fun _ => none) N = some 0 := freeI_at (by omega) (fun j hj => by omega) (by
  cases h : usedE (fun _ => none) 0 with
  | false => rfl
  | true => obtain ⟨π, hp⟩ := (usedE_iff _ _).1 h; cases hp)
/-- The first update. -/
theorem upd_first {K V N : Nat} {rows : List (List Int)} {ks vs : List Int} (hN : 1 ≤ N) (fl : Int) (hf : 0 ≤ fl ∧ fl ≤ 1) :
    ((KeyBad K ks ∨ vs.length ≠ V) ∧ updT K V N (fun _ => none) rows ks vs fl = (2, fun _ => none, rows)) ∨
    (¬ KeyBad K ks ∧ vs.length = V ∧ updT K V N (fun _ => none) rows ks vs fl = (0, putE (fun _ => none) (kbits ks) (some 0), rows.set 0 vs)) := by
  by_cases hb : KeyBad K ks ∨ vs.length ≠ V
  · exact .inl ⟨hb, by unfold updT; rw [if_pos (hb.elim .inl (fun h => .inr (.inl h)))]⟩
  · have hb1 : ¬ KeyBad K ks := fun h => hb (.inl h)
    have hb2 : vs.length = V := Classical.not_not.1 (fun h => hb (.inr h))
    refine .inr ⟨hb1, hb2, ?_⟩
    unfold updT
    rw [if_neg (by rintro (h | h | h); exact hb1 h; exact h hb2; omega)]
    dsimp only
    rw [if_neg (by omega), free_none hN]
theorem getLast_upto (π : Path) : ∃ R, upto π = R ++ [π] := by
  unfold upto
  rw [List.range_succ, List.map_append]
  exact ⟨_, by rw [List.map_singleton, List.take_of_length_le (Nat.le_refl _)]⟩
theorem lookE_at {E : EMap} {π : Path} {p : Nat} (h : E π = some p) : lookE E π = some p := by
  obtain ⟨R, hR⟩ := getLast_upto π
  unfold lookE
  rw [hR, List.filterMap_append]
  simp [h]
theorem lookT_at {K : Nat} {E : EMap} {ks : List Int} {p : Nat} (hb : ¬ KeyBad K ks) (h : E (kbits ks) = some p) : lookT K E ks = (((p : Nat) : Int), 0) := by
  unfold lookT
  rw [if_neg hb, lookE_at h]
  rfl
theorem delT_keep {K : Nat} {E : EMap} {ks : List Int} {π : Path} (h : ¬ KeyBad K ks → kbits ks ≠ π) : (delT K E ks).2 π = E π := by
  unfold delT
  by_cases hb : KeyBad K ks
  · rw [if_pos hb]
  · rw [if_neg hb]
    split
    · rfl
    · exact putE_ne _ _ (fun e => h hb e.symm)
theorem updT_keep {K V N : Nat} {E : EMap} {rows : List (List Int)} {ks vs' : List Int} {fl : Int} {π : Path} {p : Nat} {r : List Int} (hp : E π = some p) (hr : rows[p]? = some r) (hinj : ∀ ρ, E ρ = some p → ρ = π) (h : ¬ KeyBad K ks → kbits ks ≠ π) :
    (updT K V N E rows ks vs' fl).2.1 π = some p ∧ (updT K V N E rows ks vs' fl).2.2[p]? = some r := by
  unfold updT
  split
  · exact ⟨hp, hr⟩
  · rename_i hb
    have hne := h (fun hh => hb (.inl hh))
    cases hq : E (kbits ks) with
    | some q =>
      dsimp only
      split
      · exact ⟨hp, hr⟩
      · refine ⟨hp, ?_⟩
        rw [List.getElem?_set_ne (by rintro rfl; exact hne (hinj _ hq))]
        exact hr
    | none =>
      dsimp only
      split
      · exact ⟨hp, hr⟩
      · cases hf : freeI (usedE E) N with
        | none => exact ⟨hp, hr⟩
        | some q =>
          dsimp only
          have hu := (freeI_some hf).2
          refine ⟨by rw [putE_ne _ _ (fun e => hne e.symm)]; exact hp, ?_⟩
          rw [List.getElem?_set_ne (by
            rintro rfl
            rw [(usedE_iff E q).2 ⟨π, hp⟩] at hu
            cases hu)]
          exact hr
theorem begP_same {a b : List Int} (ha : KeyOk a) (hb : KeyOk b) (hl : a.length = b.length) (h : kbits a = kbits b) : begP a b = true := by
  have hm : kmany a = kmany b := by rw [← kbits_len, ← kbits_len, h]
  unfold begP
  rw [decide_eq_true_iff]
  refine ⟨⟨⟨ha.four, hl.symm⟩, by rw [ha.many, hb.many, hm]; exact Int.le_refl _, hb.fits⟩, fun i hi => ?_⟩
  have h1 := congrArg (fun l => l[i]?) h
  unfold kbits at h1
  simp only [List.getElem?_map] at h1
  rw [List.getElem?_range hi, List.getElem?_range (by omega)] at h1
  simpa using h1
theorem xor_nat : ∀ n : Nat, n < 256 → ∀ t : Nat, t < 2 → (0 ≤ bits .xor .u8 (n : Int) (t : Int) ∧ bits .xor .u8 (n : Int) (t : Int) ≤ 255) ∧ ∀ j : Nat, j < 7 → bits .xor .u8 (n : Int) (t : Int) / 2 ^ (7 - j) % 2 = (n : Int) / 2 ^ (7 - j) % 2 := by decide +kernel
theorem and1_le {t : Int} (h0 : 0 ≤ t) (h1 : t ≤ 255) : bits .and .u8 t 1 = t % 2 := and1 h0 h1
/-- A key whose last bit, that does not count, has turned. -/
def turnK (ks : List Int) (t : Int) : List Int := ks.set (ks.length - 1) (bits .xor .u8 (ks.getD (ks.length - 1) 0) (bits .and .u8 t 1))
theorem turnK_ok {ks : List Int} (h : KeyOk ks) (h5 : 5 ≤ ks.length) {t : Int} (ht : 0 ≤ t ∧ t ≤ 255) (hm : leV (ks.take 4) < 8 * ((ks.length : Int) - 4)) : KeyOk (turnK ks t) ∧ (turnK ks t).length = ks.length ∧ kbits (turnK ks t) = kbits ks := by
  have hlen : (turnK ks t).length = ks.length := by simp [turnK]
  have htake : (turnK ks t).take 4 = ks.take 4 := by
    unfold turnK
    rw [List.take_set_of_le (by omega)]
  have hy := getD_byte h.bytes (ks.length - 1)
  obtain ⟨n, hn⟩ := Int.eq_ofNat_of_zero_le hy.1
  have ht2 : ∃ u : Nat, t % 2 = u ∧ u < 2 := ⟨(t % 2).toNat, by omega, by omega⟩
  obtain ⟨u, hu, hu2⟩ := ht2
  have hx := xor_nat n (by omega) u hu2
  have hset : turnK ks t = ks.set (ks.length - 1) (bits .xor .u8 (n : Int) (u : Int)) := by
    unfold turnK
    rw [and1_le ht.1 ht.2, hu, hn]
  have hmm := h.many
  have hok : KeyOk (turnK ks t) := ⟨fun z hz => by
    rw [hset] at hz
    rcases List.mem_or_eq_of_mem_set hz with hz | rfl
    · exact h.bytes z hz
    · exact hx.1, by rw [hlen]; exact h.four, by rw [hlen]; exact h.long, by rw [htake, hlen]; exact h.fits⟩
  refine ⟨hok, hlen, ?_⟩
  have hk : kmany (turnK ks t) = kmany ks := by unfold kmany; rw [htake]
  unfold kbits
  rw [hk]
  refine List.map_congr_left (fun i hi => ?_)
  rw [List.mem_range] at hi
  unfold kbit
  rw [hset]
  by_cases he : 4 + i / 8 = ks.length - 1
  · rw [he, List.getD_eq_getElem?_getD, List.getElem?_set_self (by omega), Option.getD_some, hx.2 (i % 8) (by omega), hn]
  · rw [List.getD_eq_getElem?_getD, List.getElem?_set_ne (Ne.symm he), ← List.getD_eq_getElem?_getD]
end Go.Proofs.Ytpoinhfkgnkedaa.M
