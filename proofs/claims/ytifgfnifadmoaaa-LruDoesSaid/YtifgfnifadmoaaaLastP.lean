/-
  LruLast, plain: what is there, with its values, in order; behind each deed.
-/
import Derived.Test.YtifgfnifadmoaaaPlacesP
namespace Go.Proofs.Ytifgfnifadmoaaa.M
open Go.RowKit
set_option linter.unusedVariables false
set_option linter.unusedSectionVars false
set_option linter.unusedSimpArgs false
def rowOf (rows : List (List Int)) (p : Nat) : List Int := (rows[p]?).getD []
/-- Keys and values, the eldest first. -/
def ZA (rows : List (List Int)) (A : LSt) : List (List Int × List Int) := A.map fun x => (x.1, rowOf rows x.2)
def but1 (ks : List Int) (Z : List (List Int × List Int)) : List (List Int × List Int) := Z.filter fun z => decide (z.1 ≠ ks)
theorem filt_none {A : LSt} {ks : List Int} (h : findK A ks = none) : A.filter (fun x => decide (x.1 ≠ ks)) = A :=
  List.filter_eq_self.2 fun x hx => by
    have := List.findIdx?_eq_none_iff.1 h x hx
    simpa using this
theorem filt_erase : ∀ {A : LSt} {k p : Nat} {ks : List Int}, A[k]? = some (ks, p) → (A.map (·.1)).Nodup → A.filter (fun x => decide (x.1 ≠ ks)) = A.eraseIdx k
  | [], k, p, ks, h, _ => by simp at h
  | x :: A, 0, p, ks, h, hn => by
    simp at h
    subst h
    simp only [List.map_cons, List.nodup_cons, List.mem_map, not_exists, not_and] at hn
    rw [List.filter_cons_of_neg (by simp)]
    simp only [List.eraseIdx_cons_zero]
    exact List.filter_eq_self.2 fun y hy => by
      have := hn.1 y hy
      simpa using this
  | x :: A, k + 1, p, ks, h, hn => by
    simp at h
    simp only [List.map_cons, List.nodup_cons, List.mem_map, not_exists, not_and] at hn
    have hx : x.1 ≠ ks := fun e => hn.1 (ks, p) (List.mem_of_getElem? h) e.symm
    rw [List.filter_cons_of_pos (by simpa using hx), filt_erase h hn.2]
    rfl
theorem za_filter (rows : List (List Int)) (A : LSt) (ks : List Int) : but1 ks (ZA rows A) = ZA rows (A.filter fun x => decide (x.1 ≠ ks)) := by
  unfold but1 ZA
  rw [List.filter_map]
  rfl
theorem za_some {rows : List (List Int)} {A : LSt} {ks : List Int} {k p : Nat} (h : A[k]? = some (ks, p)) (hn : (A.map (·.1)).Nodup) : but1 ks (ZA rows A) = ZA rows (A.eraseIdx k) := by
  rw [za_filter, filt_erase h hn]
theorem za_none {rows : List (List Int)} {A : LSt} {ks : List Int} (h : findK A ks = none) : but1 ks (ZA rows A) = ZA rows A := by
  rw [za_filter, filt_none h]
theorem za_set {rows : List (List Int)} {A : LSt} {p : Nat} (vs : List Int) (h : ∀ x ∈ A, x.2 ≠ p) : ZA (rows.set p vs) A = ZA rows A := by
  unfold ZA
  refine List.map_congr_left fun x hx => ?_
  unfold rowOf
  rw [List.getElem?_set_ne (Ne.symm (h x hx))]
theorem za_snoc (rows : List (List Int)) (A : LSt) (x : List Int × Nat) : ZA rows (A ++ [x]) = ZA rows A ++ [(x.1, rowOf rows x.2)] := by simp [ZA]
theorem row_set {rows : List (List Int)} {p : Nat} {vs : List Int} (h : p < rows.length) : rowOf (rows.set p vs) p = vs := by
  unfold rowOf
  rw [List.getElem?_set_self h]
  rfl
theorem LS.places {w : World} {ok : Nat → Prop} {P K V N : Nat} {A : LSt} {rows : List (List Int)} (h : LS w ok P K V N A rows) : (A.map (·.2)).Nodup ∧ (∀ x ∈ A, x.2 < N) ∧ rows.length = N := by
  obtain ⟨M, U, Rm, g, E, h1, h2, h3, h4⟩ := h
  have h5 : E.map Ent.place = A.map (·.2) := by
    have := congrArg (List.map (·.2)) h2
    simpa [pairs, enc, Function.comp_def] using this
  refine ⟨by rw [← h5]; exact h1.places.1, fun x hx => ?_, h1.rowsw.1⟩
  have h6 : x.2 ∈ E.map Ent.place := by rw [h5]; exact List.mem_map_of_mem hx
  obtain ⟨e, he, h7⟩ := List.mem_map.1 h6
  rw [← h7]
  exact h1.places.2 e he
theorem not_snoc {A : LSt} {x : List Int × Nat} (h : ((A ++ [x]).map (·.2)).Nodup) : ∀ y ∈ A, y.2 ≠ x.2 := fun y hy => by
  rw [List.map_append, List.nodup_append] at h
  exact h.2.2 y.2 (List.mem_map_of_mem hy) x.2 (by simp)
/-- Looked up with success. -/
theorem last_look {rows : List (List Int)} {A : LSt} {ks : List Int} {k : Nat} (h : findK A ks = some k) (hn : (A.map (·.1)).Nodup) : ZA rows (youngA A k) = but1 ks (ZA rows A) ++ [(ks, rowOf rows (placeA A k))] := by
  obtain ⟨_, h2⟩ := findK_some h
  have e1 : youngA A k = A.eraseIdx k ++ [(ks, placeA A k)] := by unfold youngA; rw [h2]; rfl
  rw [e1, za_snoc, za_some h2 hn]
/-- Deleted. -/
theorem last_del {rows : List (List Int)} {A : LSt} {ks : List Int} {k : Nat} (h : findK A ks = some k) (hn : (A.map (·.1)).Nodup) : ZA rows (A.eraseIdx k) = but1 ks (ZA rows A) := by
  obtain ⟨_, h2⟩ := findK_some h
  rw [za_some h2 hn]
/-- Updated, there already. -/
theorem last_hit {rows : List (List Int)} {A : LSt} {ks vs : List Int} {k : Nat} (h : findK A ks = some k) (hn : (A.map (·.1)).Nodup) (hp : ((youngA A k).map (·.2)).Nodup) (hl : placeA A k < rows.length) : ZA (rows.set (placeA A k) vs) (youngA A k) = but1 ks (ZA rows A) ++ [(ks, vs)] := by
  obtain ⟨_, h2⟩ := findK_some h
  have e1 : youngA A k = A.eraseIdx k ++ [(ks, placeA A k)] := by unfold youngA; rw [h2]; rfl
  rw [e1] at hp ⊢
  rw [za_snoc, za_set vs (not_snoc hp), row_set hl, za_some h2 hn]
/-- Updated, new. -/
theorem last_new {rows : List (List Int)} {A : LSt} {ks vs : List Int} {N p : Nat} (h : findK A ks = none) (hp : ((roomyA A N ++ [(ks, p)]).map (·.2)).Nodup) (hl : p < rows.length) (hA : A.length ≤ N) (hN : 1 ≤ N) :
    ZA (rows.set p vs) (roomyA A N ++ [(ks, p)]) = if N < (but1 ks (ZA rows A) ++ [(ks, vs)]).length then (but1 ks (ZA rows A) ++ [(ks, vs)]).drop 1 else but1 ks (ZA rows A) ++ [(ks, vs)] := by
  rw [za_snoc, za_set vs (not_snoc hp), row_set hl, za_none h]
  have hlen : (ZA rows A).length = A.length := by simp [ZA]
  unfold roomyA
  by_cases e : A.length = N
  · rw [if_pos e, if_pos (by rw [List.length_append, hlen]; simp; omega)]
    cases A with
    | nil => simp at e; omega
    | cons x A => simp [ZA]
  · rw [if_neg e, if_neg (by rw [List.length_append, hlen]; simp; omega)]
end Go.Proofs.Ytifgfnifadmoaaa.M
