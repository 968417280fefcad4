/-
  LruLast, plain: one deed, in the words of what is there.
-/
import Derived.Test.YtifgfnifadmoaaaLastP
namespace Go.Proofs.Ytifgfnifadmoaaa.M
open Go.RowKit
set_option linter.unusedVariables false
set_option linter.unusedSectionVars false
set_option linter.unusedSimpArgs false
def trimZ (N : Nat) (Z : List (List Int × List Int)) : List (List Int × List Int) := if N < Z.length then Z.drop 1 else Z
/-- Behind a deed with success. -/
structure StepZ (N : Nat) (q : Int) (Z : List (List Int × List Int)) (ks vs : List Int) (Z' : List (List Int × List Int)) : Prop where
  del : q = 5 → Z' = but1 ks Z
  look : q ≤ 1 → ∃ v : List Int, (∃ n : Nat, Z[n]? = some (ks, v)) ∧ Z' = but1 ks Z ++ [(ks, v)]
  upd : 1 < q → q ≠ 5 → Z' = trimZ N (but1 ks Z ++ [(ks, vs)])
theorem za_at {rows : List (List Int)} {A : LSt} {ks : List Int} {k p : Nat} (h : A[k]? = some (ks, p)) : (ZA rows A)[k]? = some (ks, rowOf rows p) := by
  unfold ZA
  rw [List.getElem?_map, h]
  rfl
theorem step_look {N K : Nat} {q : Int} {A : LSt} {rows : List (List Int)} {ks vs : List Int} (hq : q ≤ 1) (hn : (A.map (·.1)).Nodup) :
    ((lookA K A ks).2.1 ≠ 0 → (lookA K A ks).2.2 = A) ∧ ((lookA K A ks).2.1 = 0 → StepZ N q (ZA rows A) ks vs (ZA rows (lookA K A ks).2.2)) := by
  unfold lookA
  split
  · exact ⟨fun _ => rfl, fun h => absurd (show (2 : Int) = 0 from h) (by decide)⟩
  · split
    · exact ⟨fun _ => rfl, fun h => absurd (show (6 : Int) = 0 from h) (by decide)⟩
    · rename_i k hf
      obtain ⟨_, h2⟩ := findK_some hf
      exact ⟨fun h => absurd rfl h, fun _ => ⟨fun h => by omega, fun _ => ⟨_, ⟨k, za_at h2⟩, last_look hf hn⟩, fun h => by omega⟩⟩
theorem step_del {N K : Nat} {A : LSt} {rows : List (List Int)} {ks vs : List Int} (hn : (A.map (·.1)).Nodup) :
    ((delA K A ks).1 ≠ 0 → (delA K A ks).2 = A) ∧ ((delA K A ks).1 = 0 → StepZ N 5 (ZA rows A) ks vs (ZA rows (delA K A ks).2)) := by
  unfold delA
  split
  · exact ⟨fun _ => rfl, fun h => absurd (show (2 : Int) = 0 from h) (by decide)⟩
  · split
    · exact ⟨fun _ => rfl, fun h => absurd (show (6 : Int) = 0 from h) (by decide)⟩
    · rename_i k hf
      exact ⟨fun h => absurd rfl h, fun _ => ⟨fun _ => last_del hf hn, fun h => absurd h (by decide), fun _ h => absurd rfl h⟩⟩
theorem step_upd {K V N : Nat} {q f : Int} {A : LSt} {rows : List (List Int)} {ks vs : List Int} (hq : 1 < q) (hq5 : q ≠ 5) (hn : (A.map (·.1)).Nodup) (hA : A.length ≤ N) (hN : 1 ≤ N) (hr : rows.length = N) (hpl : ∀ x ∈ A, x.2 < N)
    (hp' : ((updA K V N A rows ks vs f).2.1.map (·.2)).Nodup) (hl' : ∀ x ∈ (updA K V N A rows ks vs f).2.1, x.2 < N) :
    ((updA K V N A rows ks vs f).1 ≠ 0 → (updA K V N A rows ks vs f).2.1 = A ∧ (updA K V N A rows ks vs f).2.2 = rows) ∧ ((updA K V N A rows ks vs f).1 = 0 → StepZ N q (ZA rows A) ks vs (ZA (updA K V N A rows ks vs f).2.2 (updA K V N A rows ks vs f).2.1)) := by
  unfold updA at hp' hl' ⊢
  split
  · exact ⟨fun _ => ⟨rfl, rfl⟩, fun h => absurd (show (2 : Int) = 0 from h) (by decide)⟩
  · rename_i h0
    rw [if_neg h0] at hp' hl'
    split
    · rename_i hf
      simp only [hf] at hp' hl'
      split
      · exact ⟨fun _ => ⟨rfl, rfl⟩, fun h => absurd (show (6 : Int) = 0 from h) (by decide)⟩
      · rename_i h2
        rw [if_neg h2] at hp' hl'
        refine ⟨fun h => absurd rfl h, fun _ => ⟨fun h => absurd h hq5, fun h => by omega, fun _ _ => ?_⟩⟩
        rw [last_new hf hp' (by have := hl' (ks, leastA (roomyA A N) N) (by simp); rw [hr]; exact this) hA hN]
        first | done | rfl
    · rename_i k hf
      simp only [hf] at hp' hl'
      split
      · exact ⟨fun _ => ⟨rfl, rfl⟩, fun h => absurd (show (7 : Int) = 0 from h) (by decide)⟩
      · rename_i h2
        rw [if_neg h2] at hp' hl'
        obtain ⟨_, h3⟩ := findK_some hf
        refine ⟨fun h => absurd rfl h, fun _ => ⟨fun h => absurd h hq5, fun h => by omega, fun _ _ => ?_⟩⟩
        rw [last_hit hf hn hp' (by rw [hr]; exact hpl _ (List.mem_of_getElem? h3))]
        have hlen : (but1 ks (ZA rows A) ++ [(ks, vs)]).length ≤ N := by
          rw [za_some h3 hn, List.length_append]
          have hk : k < A.length := (List.getElem?_eq_some_iff.1 h3).1
          simp only [ZA, List.length_map, List.length_eraseIdx_of_lt hk, List.length_singleton]
          omega
        unfold trimZ
        rw [if_neg (by omega)]
end Go.Proofs.Ytifgfnifadmoaaa.M
