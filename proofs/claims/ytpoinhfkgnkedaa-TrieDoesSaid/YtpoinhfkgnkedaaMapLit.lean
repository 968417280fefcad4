/-
  Plain: a map that was just made, filled key by key, then looked up: keys of any integer kind. No program.
-/
import Derived.Test.YtpoinhfkgnkedaaGA
namespace Go.Proofs.Ytpoinhfkgnkedaa.M
open Go.RowKit
open Go.Maps (Keyed)
set_option linter.unusedVariables false
set_option linter.unusedSectionVars false
set_option linter.unusedSimpArgs false
def EntsK (q : IntKind) (es : Array MapEntry) (ps : List (Int × Value)) : Prop := es.toList.map (fun e => (e.key, e.val)) = ps.map (fun p => (Value.int q p.1, p.2))
theorem setBlock_alloc (W : World) (o o' : Obj) : ChangeMaps.setBlock (W.alloc o) W.heap.size o' = W.alloc o' := by
  have h : (W.heap.push o).setIfInBounds W.heap.size o' = W.heap.push o' := by
    apply Array.ext
    · simp
    · intro i h1 h2
      simp only [Array.size_setIfInBounds, Array.size_push] at h1
      by_cases hi : i = W.heap.size
      · subst hi; simp
      · have hl : i < W.heap.size := by omega
        rw [Array.getElem_setIfInBounds_ne (by simp; omega) (Ne.symm hi), Array.getElem_push_lt hl, Array.getElem_push_lt hl]
  show { (W.alloc o) with heap := (W.heap.push o).setIfInBounds W.heap.size o' } = _
  rw [h]
  rfl
section
variable {P : Program} {T K E : TypeId} {q : IntKind} (hK : P.underlying K = some (.int q)) (hT : P.underlying T = some (.map K E)) {W : World} {es : Array MapEntry} {clock : Nat} {ps : List (Int × Value)}
  (hE : EntsK q es ps) (hw : ∀ p ∈ ps, (Lit.int q p.1).wf = true) {n : Int} (hn : (Lit.int q n).wf = true)
include hE
theorem entsK_mem {e : MapEntry} (he : e ∈ es.toList) : ∃ p ∈ ps, e.key = .int q p.1 ∧ e.val = p.2 := by
  have : (e.key, e.val) ∈ es.toList.map (fun e => (e.key, e.val)) := List.mem_map.2 ⟨e, he, rfl⟩
  rw [hE] at this
  obtain ⟨p, hp, h⟩ := List.mem_map.1 this
  simp only [Prod.mk.injEq] at h
  exact ⟨p, hp, h.1.symm, h.2.symm⟩
include hK hw
theorem entsK_keys : ∀ e ∈ es.toList, ∃ l, keyOf P K e.key = some l := fun e he => by
  obtain ⟨p, hp, h, _⟩ := entsK_mem hE he
  rw [h]
  exact ⟨_, Maps.keyOf_int_mk hK (hw p hp)⟩
include hT hn
theorem lit_ins (b : Nat) (hb : W.heap.size = b) (hne : ∀ p ∈ ps, p.1 ≠ n) (v : Value) :
    (Instr.mapUpdate T (.map (some b)) (.int q n) v).run P (W.alloc (.map es clock)) = .ok () (W.alloc (.map (es.push ⟨.int q n, v, clock⟩) (clock + 1))) := by
  subst hb
  have KD : Keyed P K := Maps.int_keyed hK
  have hk := Maps.keyOf_int_mk hK hn
  have hm : (W.alloc (.map es clock)).heap[W.heap.size]? = some (.map es clock) := Array.getElem?_push_size
  rcases KD.find (W.alloc (.map es clock)) hk es.toList (entsK_keys hK hE hw) with ⟨h1, _⟩ | ⟨j, e0, _, h2, h3⟩
  · have hs := setBlock_alloc W (.map es clock) (.map (es.push ⟨.int q n, v, clock⟩) (clock + 1))
    simp [Instr.mapUpdate, run_underlying hT, MapKept.run_getObj_map hm, KD.check _ false hk, h1, MapKept.run_setObj_map _ hm, Result.andThen]
    exact hs
  · obtain ⟨p, hp, h, _⟩ := entsK_mem hE (List.mem_of_getElem? h2)
    rw [h] at h3
    simp only [Value.int.injEq, true_and] at h3
    exact absurd h3 (hne p hp)
theorem lit_get (b : Nat) (hb : W.heap.size = b) {v : Value} (hv : (n, v) ∈ ps) (hd : (ps.map (·.1)).Nodup) :
    (Instr.lookup T (.map (some b)) (.int q n) true).run P (W.alloc (.map es clock)) = .ok (.tuple #[v, .bool true]) (W.alloc (.map es clock)) := by
  subst hb
  have KD : Keyed P K := Maps.int_keyed hK
  have hk := Maps.keyOf_int_mk hK hn
  have hm : (W.alloc (.map es clock)).heap[W.heap.size]? = some (.map es clock) := Array.getElem?_push_size
  have inj : ∀ {l : List (Int × Value)}, (l.map (·.1)).Nodup → ∀ p ∈ l, ∀ r ∈ l, p.1 = r.1 → p = r := by
    intro l
    induction l with
    | nil => intro _ p hp; cases hp
    | cons x l ih =>
      intro h p hp r hr he
      rw [List.map_cons, List.nodup_cons] at h
      rcases List.mem_cons.1 hp with h1 | h1
      · rcases List.mem_cons.1 hr with h2 | h2
        · rw [h1, h2]
        · exact absurd (List.mem_map.2 ⟨r, h2, he.symm.trans (by rw [h1])⟩) h.1
      · rcases List.mem_cons.1 hr with h2 | h2
        · exact absurd (List.mem_map.2 ⟨p, h1, he.trans (by rw [h2])⟩) h.1
        · exact ih h.2 p h1 r h2 he
  rcases KD.find (W.alloc (.map es clock)) hk es.toList (entsK_keys hK hE hw) with ⟨h1, h2⟩ | ⟨j, e0, h1, h2, h3⟩
  · have : (Value.int q n, v) ∈ ps.map (fun p => (Value.int q p.1, p.2)) := List.mem_map.2 ⟨_, hv, rfl⟩
    rw [← hE] at this
    obtain ⟨e, he, h⟩ := List.mem_map.1 this
    simp only [Prod.mk.injEq] at h
    exact absurd h.1 (h2 e he)
  · obtain ⟨p, hp, h, h'⟩ := entsK_mem hE (List.mem_of_getElem? h2)
    rw [h] at h3
    simp only [Value.int.injEq, true_and] at h3
    have : p = (n, v) := inj hd p hp (n, v) hv h3
    rw [this] at h'
    simp [Instr.lookup, run_underlying hT, MapKept.run_getObj_map hm, KD.check _ _ hk, h1, h', Result.andThen]
theorem lit_none (b : Nat) (hb : W.heap.size = b) (hne : ∀ p ∈ ps, p.1 ≠ n) {z : Value} (hz : ∀ w, (zeroValue E).run P w = .ok z w) :
    (Instr.lookup T (.map (some b)) (.int q n) true).run P (W.alloc (.map es clock)) = .ok (.tuple #[z, .bool false]) (W.alloc (.map es clock)) := by
  subst hb
  have KD : Keyed P K := Maps.int_keyed hK
  have hk := Maps.keyOf_int_mk hK hn
  have hm : (W.alloc (.map es clock)).heap[W.heap.size]? = some (.map es clock) := Array.getElem?_push_size
  rcases KD.find (W.alloc (.map es clock)) hk es.toList (entsK_keys hK hE hw) with ⟨h1, _⟩ | ⟨j, e0, _, h2, h3⟩
  · simp [Instr.lookup, run_underlying hT, MapKept.run_getObj_map hm, KD.check _ _ hk, h1, hz, Result.andThen]
  · obtain ⟨p, hp, h, _⟩ := entsK_mem hE (List.mem_of_getElem? h2)
    rw [h] at h3
    simp only [Value.int.injEq, true_and] at h3
    exact absurd h3 (hne p hp)
end
end Go.Proofs.Ytpoinhfkgnkedaa.M
