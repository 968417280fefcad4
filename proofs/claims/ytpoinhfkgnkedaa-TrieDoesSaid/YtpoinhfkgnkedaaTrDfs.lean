/-
  trie, plain: what each tells: the entries, each once.
-/
import Derived.Test.YtpoinhfkgnkedaaTrEach
namespace Go.Proofs.Ytpoinhfkgnkedaa.M
open Go.RowKit Go.Shelf
set_option linter.unusedVariables false
set_option linter.unusedSectionVars false
set_option linter.unusedSimpArgs false
theorem nodup_le : ∀ (m : Nat) (l : List Nat), l.Nodup → (∀ x ∈ l, x < m) → l.length ≤ m
  | 0, l, _, h => by
    cases l with
    | nil => exact Nat.le_refl _
    | cons x l => exact absurd (h x List.mem_cons_self) (by omega)
  | m + 1, l, hn, h => by
    have hle := nodup_le m (l.erase m) (hn.erase m) (fun x hx => by
      have h1 := (hn.mem_erase_iff).1 hx
      have := h x h1.2
      have := h1.1
      omega)
    by_cases hm : m ∈ l
    · have := List.length_erase_of_mem hm
      have := List.length_pos_of_mem hm
      omega
    · rw [List.erase_of_not_mem hm] at hle
      omega
/-- A path is no longer than there are blocks. -/
theorem Tree.short {w : World} {nd xs : Path → Option Nat} (h : Tree w nd xs) {σ : Path} {b : Nat} (hb : nd σ = some b) : σ.length < w.heap.size + 1 := by
  have hex : ∀ i, ∃ a, i ≤ σ.length → nd (σ.take i) = some a := fun i => by
    by_cases hi : i ≤ σ.length
    · obtain ⟨a, ha⟩ := h.up (σ.drop i) (σ.take i) b (by rw [List.take_append_drop]; exact hb)
      exact ⟨a, fun _ => ha⟩
    · exact ⟨0, fun h => absurd h hi⟩
  obtain ⟨g, hg⟩ := Classical.axiomOfChoice hex
  have hn : ((List.range (σ.length + 1)).map g).Nodup := by
    refine List.pairwise_map.2 ((List.pairwise_lt_range (n := σ.length + 1)).imp_of_mem fun {i j} hi hj hlt he => ?_)
    rw [List.mem_range] at hi hj
    have h1 := hg i (by omega)
    have h2 := hg j (by omega)
    rw [← he] at h2
    have := congrArg List.length (h.inj _ _ _ h1 h2)
    simp at this
    omega
  have := nodup_le w.heap.size _ hn (fun x hx => by
    obtain ⟨i, hi, rfl⟩ := List.mem_map.1 hx
    rw [List.mem_range] at hi
    exact h.lt (hg i (by omega)))
  simp at this
  omega
section
variable {nd xs : Path → Option Nat}
theorem dfs_mem : ∀ {f : Nat} {π : Path} {e : Nat}, e ∈ dfs nd xs f π → ∃ ρ, π <+: ρ ∧ xs ρ = some e
  | 0, π, e, h => by simp [dfs] at h
  | f + 1, π, e, h => by
    cases hn : nd π with
    | none => simp [dfs, hn] at h
    | some b =>
      simp only [dfs, hn, List.mem_append] at h
      rcases h with h | h | h
      · exact ⟨π, List.prefix_refl _, by simpa [Option.mem_toList] using h⟩
      · obtain ⟨ρ, h1, h2⟩ := dfs_mem h
        exact ⟨ρ, (List.prefix_append _ _).trans h1, h2⟩
      · obtain ⟨ρ, h1, h2⟩ := dfs_mem h
        exact ⟨ρ, (List.prefix_append _ _).trans h1, h2⟩
theorem Tree.mem_dfs {w : World} (hT : Tree w nd xs) : ∀ {f : Nat} {π : Path} {σ : Path} {e : Nat}, (∀ τ b, nd (π ++ τ) = some b → τ.length < f) → xs (π ++ σ) = some e → e ∈ dfs nd xs f π
  | 0, π, σ, e, hf, h => by
    obtain ⟨b, hb⟩ := hT.ent _ _ h
    have := hf σ b hb
    omega
  | f + 1, π, σ, e, hf, h => by
    obtain ⟨b, hb⟩ := hT.ent _ _ h
    obtain ⟨a, ha⟩ := hT.up σ π b hb
    simp only [dfs, ha, List.mem_append]
    cases σ with
    | nil =>
      rw [List.append_nil] at h
      exact .inl (by simp [h])
    | cons c σ =>
      have e1 : π ++ c :: σ = π ++ [c] ++ σ := by simp
      rw [e1] at h hb
      obtain ⟨a', ha'⟩ := hT.up σ (π ++ [c]) b hb
      have hf' : ∀ τ b, nd (π ++ [c] ++ τ) = some b → τ.length < f := fun τ b hb => by
        have := hf (c :: τ) b (by simpa using hb)
        simp at this; omega
      rcases (hT.closed _ _ _ ha').1 with rfl | rfl
      · exact .inr (.inl (hT.mem_dfs hf' h))
      · exact .inr (.inr (hT.mem_dfs hf' h))
theorem dfs_nodup (hinj : ∀ π ρ e, xs π = some e → xs ρ = some e → π = ρ) : ∀ (f : Nat) (π : Path), (dfs nd xs f π).Nodup
  | 0, π => by simp [dfs]
  | f + 1, π => by
    cases hn : nd π with
    | none => simp [dfs, hn]
    | some b =>
      simp only [dfs, hn]
      have hd : ∀ (c : Int) (e : Nat), e ∈ dfs nd xs f (π ++ [c]) → ∃ ρ, π ++ [c] <+: ρ ∧ xs ρ = some e := fun c e h => dfs_mem h
      refine List.nodup_append.2 ⟨?_, List.nodup_append.2 ⟨dfs_nodup hinj f _, dfs_nodup hinj f _, fun x hx y hy he => ?_⟩, fun x hx y hy he => ?_⟩
      · cases xs π <;> simp
      · subst he
        obtain ⟨ρ, h1, h2⟩ := hd 0 x hx
        obtain ⟨σ, h3, h4⟩ := hd 1 x hy
        obtain rfl := hinj _ _ _ h2 h4
        obtain ⟨τ, rfl⟩ := h1
        obtain ⟨υ, h5⟩ := h3
        simp at h5
      · subst he
        have hx' : xs π = some x := by simpa [Option.mem_toList] using hx
        have : ∃ c ρ, π ++ [c] <+: ρ ∧ xs ρ = some x := by
          rcases List.mem_append.1 hy with hy | hy
          · exact ⟨0, hd 0 x hy⟩
          · exact ⟨1, hd 1 x hy⟩
        obtain ⟨c, ρ, h1, h2⟩ := this
        obtain rfl := hinj _ _ _ hx' h2
        obtain ⟨τ, h5⟩ := h1
        have := congrArg List.length h5
        simp at this
end
end Go.Proofs.Ytpoinhfkgnkedaa.M
