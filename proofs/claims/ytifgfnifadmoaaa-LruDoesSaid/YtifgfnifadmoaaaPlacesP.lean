/-
  LruPlaces, plain: a key keeps its place.
-/
import Derived.Test.YtifgfnifadmoaaaLruQ
namespace Go.Proofs.Ytifgfnifadmoaaa.M
open Go.RowKit
set_option linter.unusedVariables false
set_option linter.unusedSectionVars false
set_option linter.unusedSimpArgs false
def placeK (A : LSt) (ks : List Int) : Option Nat := (A.find? fun x => decide (x.1 = ks)).map (·.2)
theorem findK_some {A : LSt} {ks : List Int} {k : Nat} (h : findK A ks = some k) : A.find? (fun x => decide (x.1 = ks)) = A[k]? ∧ A[k]? = some (ks, placeA A k) := by
  obtain ⟨hk, hp, hn⟩ := List.findIdx?_eq_some_iff_getElem.1 h
  have h2 : A[k]? = some A[k] := List.getElem?_eq_getElem hk
  have hp2 := hp
  simp only [decide_eq_true_eq] at hp2
  refine ⟨?_, ?_⟩
  · rw [h2, List.find?_eq_some_iff_getElem]
    exact ⟨hp, k, hk, rfl, fun j hj => by simpa using hn j hj⟩
  · unfold placeA
    rw [h2, ← hp2]
    rfl
theorem findK_none {A : LSt} {ks : List Int} (h : findK A ks = none) : placeK A ks = none := by
  unfold placeK
  rw [List.find?_eq_none.2 (fun x hx => by have := List.findIdx?_eq_none_iff.1 h x hx; simpa using this)]
  rfl
theorem placeK_some {A : LSt} {ks : List Int} {p : Nat} (h : placeK A ks = some p) : ∃ k, findK A ks = some k ∧ placeA A k = p ∧ A[k]? = some (ks, p) := by
  cases hf : findK A ks with
  | none => rw [findK_none hf] at h; cases h
  | some k =>
    obtain ⟨h1, h2⟩ := findK_some hf
    unfold placeK at h
    rw [h1, h2] at h
    simp only [Option.map_some, Option.some.injEq] at h
    exact ⟨k, rfl, h, by rw [h2, h]⟩
theorem findK_place {A : LSt} {ks : List Int} {k : Nat} (h : findK A ks = some k) : placeK A ks = some (placeA A k) := by
  obtain ⟨h1, h2⟩ := findK_some h
  unfold placeK
  rw [h1, h2]
  rfl
theorem find_erase {α : Type} {q : α → Bool} : ∀ {l : List α} {k : Nat} {x : α}, l[k]? = some x → q x = false → (l.eraseIdx k).find? q = l.find? q
  | [], k, x, h, _ => by simp at h
  | y :: l, 0, x, h, hq => by
    simp at h
    subst h
    simp [hq]
  | y :: l, k + 1, x, h, hq => by
    simp at h
    simp only [List.eraseIdx_cons_succ, List.find?_cons]
    rw [find_erase h hq]
theorem place_young {A : LSt} {k : Nat} {x : List Int × Nat} {ks : List Int} (h : A[k]? = some x) (hx : x.1 ≠ ks) : placeK (youngA A k) ks = placeK A ks := by
  unfold placeK youngA
  rw [List.find?_append, h, find_erase h (by simpa using hx)]
  simp [hx]
theorem place_self {A : LSt} {k p : Nat} {ks : List Int} (h : A[k]? = some (ks, p)) (hn : (A.map (·.1)).Nodup) : placeK (youngA A k) ks = some p := by
  have hp := ((perm_erase h).map (·.1)).nodup_iff.1 hn
  rw [List.map_append, List.nodup_append] at hp
  have h0 : (A.eraseIdx k).find? (fun x => decide (x.1 = ks)) = none := List.find?_eq_none.2 (fun y hy => by
    have := hp.2.2 y.1 (List.mem_map_of_mem hy) ks (by simp)
    simpa using this)
  unfold placeK youngA
  rw [List.find?_append, h0, h]
  simp
theorem young_len {A : LSt} {k : Nat} : (youngA A k).length ≤ A.length := by
  unfold youngA
  by_cases h : k < A.length
  · rw [List.length_append, List.length_eraseIdx_of_lt h, List.getElem?_eq_getElem h]
    simp
    omega
  · rw [List.getElem?_eq_none (by omega)]
    simp
    exact List.length_eraseIdx_le _ _
theorem LS.nodup {w : World} {ok : Nat → Prop} {P K V N : Nat} {A : LSt} {rows : List (List Int)} (h : LS w ok P K V N A rows) : (A.map (·.1)).Nodup := by
  obtain ⟨M, U, Rm, g, E, h1, h2, h3, h4⟩ := h
  have h5 : E.map Ent.key = (A.map (·.1)).map strOfNums := by
    have := congrArg (List.map (·.1)) h2
    simpa [pairs, enc, Function.comp_def] using this
  have h6 := h1.keys.1
  rw [h5] at h6
  exact (List.pairwise_map.1 h6).imp (fun hab e => hab (by rw [e]))
theorem look_place {K : Nat} {A : LSt} {ks : List Int} {p : Nat} (h : placeK A ks = some p) (hl : ks.length = K) (hn : (A.map (·.1)).Nodup) : ∃ A', lookA K A ks = (p, 0, A') ∧ placeK A' ks = some p ∧ A'.length ≤ A.length := by
  obtain ⟨k, h1, h2, h3⟩ := placeK_some h
  refine ⟨youngA A k, ?_, place_self h3 hn, young_len⟩
  unfold lookA
  rw [if_neg (by simp [hl])]
  simp [h1, h2]
theorem upd_other {K V N : Nat} {A : LSt} {rows : List (List Int)} {ks ks' vs : List Int} {p : Nat} (h : placeK A ks = some p) (hne : ks' ≠ ks) (hN : A.length < N) : placeK (updA K V N A rows ks' vs 0).2.1 ks = some p ∧ (updA K V N A rows ks' vs 0).2.1.length ≤ A.length + 1 := by
  unfold updA
  split
  · exact ⟨h, Nat.le_succ _⟩
  · split
    · rename_i hf
      have hr : roomyA A N = A := by unfold roomyA; rw [if_neg (by omega)]
      rw [if_neg (by decide), hr]
      refine ⟨?_, by simp⟩
      unfold placeK at h ⊢
      obtain ⟨x, hx, h2⟩ := Option.map_eq_some_iff.1 h
      simp only [List.find?_append, hx]
      simpa using h2
    · rename_i k hf
      rw [if_neg (by decide)]
      obtain ⟨_, h2⟩ := findK_some hf
      refine ⟨(place_young h2 hne).trans h, ?_⟩
      exact Nat.le_succ_of_le young_len
theorem upd_there {K V N : Nat} {A : LSt} {rows : List (List Int)} {ks vs : List Int} {p : Nat} (h : placeK A ks = some p) (hl : ks.length = K) (hv : vs.length = V) (hn : (A.map (·.1)).Nodup) : ∃ A' rows', updA K V N A rows ks vs 2 = (0, A', rows') ∧ placeK A' ks = some p := by
  obtain ⟨k, h1, h2, h3⟩ := placeK_some h
  refine ⟨youngA A k, rows.set (placeA A k) vs, ?_, place_self h3 hn⟩
  unfold updA
  rw [if_neg (by omega)]
  simp [h1]
theorem upd_new {K V N : Nat} {A : LSt} {rows : List (List Int)} {ks vs : List Int} {p : Nat} (h : placeK A ks = some p) (hl : ks.length = K) (hv : vs.length = V) : updA K V N A rows ks vs 1 = (7, A, rows) := by
  obtain ⟨k, h1, h2, h3⟩ := placeK_some h
  unfold updA
  rw [if_neg (by omega)]
  simp [h1]
/-- The first update. -/
theorem upd_first {K V N : Nat} {rows : List (List Int)} {ks vs : List Int} (hN : 1 ≤ N) : (¬ (ks.length = K ∧ vs.length = V) → updA K V N [] rows ks vs 1 = (2, [], rows)) ∧ (ks.length = K ∧ vs.length = V → ∃ p rows', updA K V N [] rows ks vs 1 = (0, [(ks, p)], rows')) := by
  refine ⟨fun h => ?_, fun h => ?_⟩
  · unfold updA
    rw [if_pos (by omega)]
  · unfold updA
    rw [if_neg (by omega)]
    have hr : roomyA [] N = [] := by unfold roomyA; rw [if_neg (by simp; omega)]
    simp only [findK, List.findIdx?_nil, hr]
    rw [if_neg (by decide)]
    exact ⟨_, _, rfl⟩
theorem look_nil {K : Nat} {ks : List Int} : ∃ e, lookA K [] ks = (0, e, []) ∧ (e = 2 ∨ e = 6) := by
  unfold lookA
  split
  · exact ⟨2, rfl, .inl rfl⟩
  · exact ⟨6, rfl, .inr rfl⟩
end Go.Proofs.Ytifgfnifadmoaaa.M
