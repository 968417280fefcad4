/-
  TrieLongest, plain.
-/
import Derived.Test.YtpoinhfkgnkedaaTrPlP
namespace Go.Proofs.Ytpoinhfkgnkedaa.M
open Go.RowKit Go.Shelf
set_option linter.unusedVariables false
set_option linter.unusedSectionVars false
set_option linter.unusedSimpArgs false
theorem mem_upto {σ π : Path} (h : σ ∈ upto π) : σ <+: π := by
  unfold upto at h
  obtain ⟨i, _, rfl⟩ := List.mem_map.1 h
  exact List.take_prefix _ _
theorem lookE_none {E : EMap} {π : Path} (h : ∀ σ, σ <+: π → E σ = none) : lookE E π = none := by
  unfold lookE
  have : (upto π).filterMap E = [] := by
    rw [List.filterMap_eq_nil_iff]
    exact fun σ hσ => h σ (mem_upto hσ)
  rw [this]
  rfl
theorem lookE_max {E : EMap} {σ π : Path} {p : Nat} (hp : σ <+: π) (h : E σ = some p) (hm : ∀ τ, τ <+: π → σ.length < τ.length → E τ = none) : lookE E π = some p := by
  obtain ⟨τ, rfl⟩ := hp
  obtain ⟨R, h1, h2⟩ := upto_prefix τ σ
  have hR : R.filterMap E = [] := by
    rw [List.filterMap_eq_nil_iff]
    intro ρ hρ
    obtain ⟨x, _, hx⟩ := h2 ρ hρ
    refine hm ρ (mem_upto (by rw [h1]; exact List.mem_append_right _ hρ)) ?_
    have := hx.length_le
    simp at this
    omega
  have h3 := lookE_at h
  unfold lookE at h3 ⊢
  rw [h1, List.filterMap_append, hR, List.append_nil]
  exact h3
/-- A key is a beginning just if its bits are. -/
theorem begP_iff {a b : List Int} (ha : KeyOk a) (hb : KeyOk b) (hl : a.length = b.length) : begP a b = true ↔ kbits a <+: kbits b := by
  unfold begP
  rw [decide_eq_true_iff]
  have e : kbits a = (kbits b).take (kmany a) ↔ (kmany a ≤ kmany b ∧ ∀ i, i < kmany a → kbit a i = kbit b i) := by
    constructor
    · intro h
      have h1 := congrArg List.length h
      rw [kbits_len, List.length_take, kbits_len] at h1
      refine ⟨by omega, fun i hi => ?_⟩
      have h2 := congrArg (fun l => l[i]?) h
      rw [List.getElem?_take, if_pos hi] at h2
      unfold kbits at h2
      simp only [List.getElem?_map] at h2
      rw [List.getElem?_range hi, List.getElem?_range (by omega)] at h2
      simpa using h2
    · rintro ⟨h1, h2⟩
      apply List.ext_getElem?
      intro i
      rw [List.getElem?_take]
      by_cases hi : i < kmany a
      · rw [if_pos hi]
        unfold kbits
        simp only [List.getElem?_map]
        rw [List.getElem?_range hi, List.getElem?_range (by omega)]
        simpa using h2 i hi
      · rw [if_neg hi, List.getElem?_eq_none (by rw [kbits_len]; omega)]
  constructor
  · rintro ⟨⟨_, h1, _⟩, h2⟩
    rw [ha.many, hb.many] at h1
    rw [e.2 ⟨by omega, h2⟩]
    exact List.take_prefix _ _
  · intro h
    have h3 := e.1 (by rw [← kbits_len a]; exact List.prefix_iff_eq_take.1 h)
    exact ⟨⟨⟨ha.four, hl.symm⟩, by rw [ha.many, hb.many]; omega, hb.fits⟩, h3.2⟩
/-- The place of a key that is there. -/
def plE (E : EMap) (ks : List Int) : Nat := (E (kbits ks)).getD 0
/-- The loop's two numbers. -/
def bestS (E : EMap) (k : List Int) (bl : Int × Int) (ks : List Int) : Int × Int := if begP ks k = true ∧ bl.2 < leV (ks.take 4) then (((plE E ks : Nat) : Int), leV (ks.take 4)) else bl
def bestF (E : EMap) (k : List Int) (L : List (List Int)) : Int × Int := L.foldl (bestS E k) (-1, -1)
theorem bestF_snoc (E : EMap) (k : List Int) (L : List (List Int)) (ks : List Int) : bestF E k (L ++ [ks]) = bestS E k (bestF E k L) ks := by simp [bestF]
structure BestI (E : EMap) (k : List Int) (L : List (List Int)) (bl : Int × Int) : Prop where
  no : (∀ ks ∈ L, begP ks k = false) → bl = (-1, -1)
  yes : (∃ ks ∈ L, begP ks k = true) → ∃ ks ∈ L, begP ks k = true ∧ bl = (((plE E ks : Nat) : Int), leV (ks.take 4)) ∧ ∀ ks' ∈ L, begP ks' k = true → leV (ks'.take 4) ≤ leV (ks.take 4)
theorem bestI_all (E : EMap) (k : List Int) (L : List (List Int)) (h0 : ∀ ks ∈ L, 0 ≤ leV (ks.take 4)) : BestI E k L (bestF E k L) := by
  suffices ∀ (R L : List (List Int)), (∀ ks ∈ L ++ R, 0 ≤ leV (ks.take 4)) → BestI E k L (bestF E k L) → BestI E k (L ++ R) (bestF E k (L ++ R)) by
    have h1 := this L [] (by simpa using h0) ⟨fun _ => rfl, fun ⟨ks, h, _⟩ => (by cases h)⟩
    simpa using h1
  intro R
  induction R with
  | nil => intro L _ h; simpa using h
  | cons ks R ih =>
    intro L hl h
    have e : L ++ ks :: R = (L ++ [ks]) ++ R := by simp
    rw [e] at hl ⊢
    refine ih (L ++ [ks]) hl ?_
    rw [bestF_snoc]
    have hk0 := hl ks (by simp)
    unfold bestS
    by_cases hb : begP ks k = true
    · by_cases hex : ∃ ks' ∈ L, begP ks' k = true
      · obtain ⟨k0, hk0m, hk0b, hbl, hmax⟩ := h.yes hex
        rw [hbl]
        dsimp only
        by_cases hlt : leV (k0.take 4) < leV (ks.take 4)
        · rw [if_pos ⟨hb, hlt⟩]
          refine ⟨fun hn => by rw [hn ks (by simp)] at hb; exact absurd hb (by decide), fun _ => ⟨ks, by simp, hb, rfl, fun k' hk' hb' => ?_⟩⟩
          rcases List.mem_append.1 hk' with hk' | hk'
          · have := hmax k' hk' hb'; omega
          · rw [List.mem_singleton] at hk'; subst hk'; exact Int.le_refl _
        · rw [if_neg (fun h => hlt h.2)]
          refine ⟨fun hn => by rw [hn ks (by simp)] at hb; exact absurd hb (by decide), fun _ => ⟨k0, by simp [hk0m], hk0b, rfl, fun k' hk' hb' => ?_⟩⟩
          rcases List.mem_append.1 hk' with hk' | hk'
          · exact hmax k' hk' hb'
          · rw [List.mem_singleton] at hk'; subst hk'; omega
      · have hno : ∀ ks' ∈ L, begP ks' k = false := fun k' hk' => by
          cases hc : begP k' k with
          | false => rfl
          | true => exact absurd ⟨k', hk', hc⟩ hex
        rw [h.no hno]
        dsimp only
        rw [if_pos ⟨hb, by omega⟩]
        refine ⟨fun hn => by rw [hn ks (by simp)] at hb; exact absurd hb (by decide), fun _ => ⟨ks, by simp, hb, rfl, fun k' hk' hb' => ?_⟩⟩
        rcases List.mem_append.1 hk' with hk' | hk'
        · rw [hno k' hk'] at hb'; cases hb'
        · rw [List.mem_singleton] at hk'; subst hk'; exact Int.le_refl _
    · rw [if_neg (fun h => hb h.1)]
      refine ⟨fun hn => h.no (fun k' hk' => hn k' (by simp [hk'])), fun ⟨k', hk', hb'⟩ => ?_⟩
      have hk'L : k' ∈ L := by
        rcases List.mem_append.1 hk' with hk' | hk'
        · exact hk'
        · rw [List.mem_singleton] at hk'; subst hk'; exact absurd hb' hb
      obtain ⟨k0, h1, h2, h3, h4⟩ := h.yes ⟨k', hk'L, hb'⟩
      refine ⟨k0, by simp [h1], h2, h3, fun k2 hk2 hb2 => ?_⟩
      rcases List.mem_append.1 hk2 with hk2 | hk2
      · exact h4 k2 hk2 hb2
      · rw [List.mem_singleton] at hk2; subst hk2; exact absurd hb2 hb
/-- What the loop found is what Lookup tells. -/
theorem best_look {K : Nat} {E : EMap} {L : List (List Int)} (hK : KeysE K E L) {k : List Int} (hk : KeyOk k) (hkl : k.length = K) :
    ((bestF E k L).1 < 0 ∧ lookT K E k = (0, 6)) ∨ (0 ≤ (bestF E k L).1 ∧ lookT K E k = ((bestF E k L).1, 0)) := by
  have hbad : ¬ KeyBad K k := by
    unfold KeyBad
    rw [not_or]
    exact ⟨fun h => h hkl, by have := hk.fits; rw [hkl] at this; omega⟩
  have hI := bestI_all E k L (fun ks hks => by rw [(hK.ok ks hks).1.many]; omega)
  unfold lookT
  rw [if_neg hbad]
  by_cases hex : ∃ ks ∈ L, begP ks k = true
  · obtain ⟨k0, h1, h2, h3, h4⟩ := hI.yes hex
    obtain ⟨ho, hl, _, p, hp⟩ := hK.ok k0 h1
    have hpe : plE E k0 = p := by unfold plE; rw [hp]; rfl
    have hpre := (begP_iff ho hk (by rw [hl, hkl])).1 h2
    have hlook : lookE E (kbits k) = some p := lookE_max hpre hp (fun τ hτ hlt => by
      cases hc : E τ with
      | none => rfl
      | some q =>
        obtain ⟨k1, hk1, hb1⟩ := hK.all τ q hc
        obtain ⟨ho1, hl1, _⟩ := hK.ok k1 hk1
        have := h4 k1 hk1 ((begP_iff ho1 hk (by rw [hl1, hkl])).2 (by rw [hb1]; exact hτ))
        rw [ho1.many, ho.many, ← kbits_len, ← kbits_len, hb1] at this
        omega)
    rw [h3, hlook, hpe]
    exact .inr ⟨by dsimp only; omega, rfl⟩
  · have hno : ∀ ks ∈ L, begP ks k = false := fun k' hk' => by
      cases hc : begP k' k with
      | false => rfl
      | true => exact absurd ⟨k', hk', hc⟩ hex
    have hlook : lookE E (kbits k) = none := lookE_none (fun σ hσ => by
      cases hc : E σ with
      | none => rfl
      | some q =>
        obtain ⟨k1, hk1, hb1⟩ := hK.all σ q hc
        obtain ⟨ho1, hl1, _⟩ := hK.ok k1 hk1
        have := (begP_iff ho1 hk (by rw [hl1, hkl])).2 (by rw [hb1]; exact hσ)
        rw [hno k1 hk1] at this
        cases this)
    rw [hI.no hno, hlook]
    exact .inl ⟨by decide, rfl⟩
/-- A place is not told twice. -/
theorem plE_inj {K : Nat} {E : EMap} {L : List (List Int)} (hK : KeysE K E L) (hE : ∀ π ρ p, E π = some p → E ρ = some p → π = ρ) {i j : Nat} {a b : List Int} (hi : L[i]? = some a) (hj : L[j]? = some b) (h : plE E a = plE E b) : i = j := by
  obtain ⟨_, _, _, p, hp⟩ := hK.ok a (List.mem_of_getElem? hi)
  obtain ⟨_, _, _, q, hq⟩ := hK.ok b (List.mem_of_getElem? hj)
  have e1 : plE E a = p := by unfold plE; rw [hp]; rfl
  have e2 : plE E b = q := by unfold plE; rw [hq]; rfl
  rw [e1, e2] at h
  subst h
  have hb := hE _ _ _ hp hq
  have hn := hK.nodup
  unfold List.Nodup at hn
  rw [List.pairwise_iff_getElem] at hn
  have hil := (List.getElem?_eq_some_iff.1 hi).1
  have hjl := (List.getElem?_eq_some_iff.1 hj).1
  have ea : L[i] = a := (List.getElem?_eq_some_iff.1 hi).2
  have eb : L[j] = b := (List.getElem?_eq_some_iff.1 hj).2
  rcases Nat.lt_trichotomy i j with hlt | rfl | hlt
  · exact absurd (by rw [List.getElem_map, List.getElem_map, ea, eb, hb]) (hn i j (by simpa using hil) (by simpa using hjl) hlt)
  · rfl
  · exact absurd (by rw [List.getElem_map, List.getElem_map, ea, eb, hb]) (hn j i (by simpa using hjl) (by simpa using hil) hlt)
end Go.Proofs.Ytpoinhfkgnkedaa.M
