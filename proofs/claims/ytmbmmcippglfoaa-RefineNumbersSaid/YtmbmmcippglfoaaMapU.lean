/-
  Plain: a map of integers of any kind to whatever, by its entries: a new key, a look-up without its ok. No program.
-/
import Derived.Test.YtmbmmcippglfoaaHeap
namespace Go.Proofs.Ytmbmmcippglfoaa.M
open Go.RowKit
open Go.Maps (Keyed)
set_option linter.unusedVariables false
set_option linter.unusedSectionVars false
set_option linter.unusedSimpArgs false
theorem But.setBlock {L : List Nat} {a b : World} (h : But L a b) {g : Nat} {o' : Obj} (hg : b.heap[g]? = some o') (hp : g ∈ L ∨ a.heap.size ≤ g) (o : Obj) : But L a (ChangeMaps.setBlock b g o) :=
  ⟨h.os, h.tape, h.output, Nat.le_trans h.size (by simp [ChangeMaps.setBlock]), fun i hi hn => by
    have hne : g ≠ i := fun he => by rcases hp with h1 | h1; exact hn (he ▸ h1); omega
    rw [← h.block i hi hn]
    exact Array.getElem?_setIfInBounds_ne hne⟩
def EntsK (q : IntKind) (es : Array MapEntry) (ps : List (Int × Value)) : Prop := es.toList.map (fun e => (e.key, e.val)) = ps.map (fun p => (Value.int q p.1, p.2))
theorem nodup_injU {α β : Type} {f : α → β} : ∀ {l : List α}, (l.map f).Nodup → ∀ p ∈ l, ∀ r ∈ l, f p = f r → p = r
  | [], _, _, hp, _, _, _ => by cases hp
  | x :: l, h, p, hp, r, hr, he => by
    rw [List.map_cons, List.nodup_cons] at h
    rcases List.mem_cons.1 hp with h1 | h1
    · rcases List.mem_cons.1 hr with h2 | h2
      · rw [h1, h2]
      · exact absurd (List.mem_map.2 ⟨r, h2, he.symm.trans (by rw [h1])⟩) h.1
    · rcases List.mem_cons.1 hr with h2 | h2
      · exact absurd (List.mem_map.2 ⟨p, h1, he.trans (by rw [h2])⟩) h.1
      · exact nodup_injU h.2 p h1 r h2 he
section
variable {P : Program} {T K E : TypeId} {q : IntKind} (hK : P.underlying K = some (.int q)) (hT : P.underlying T = some (.map K E)) {w : World} {b : Nat} {es : Array MapEntry} {clock : Nat} {ps : List (Int × Value)}
  (hb : w.heap[b]? = some (.map es clock)) (hE : EntsK q es ps) (hw : ∀ p ∈ ps, (Lit.int q p.1).wf = true) {n : Int} (hn : (Lit.int q n).wf = true)
include hE hw
theorem entsU_mem {e : MapEntry} (he : e ∈ es.toList) : ∃ p ∈ ps, e.key = .int q p.1 ∧ e.val = p.2 := by
  have : (e.key, e.val) ∈ es.toList.map (fun e => (e.key, e.val)) := List.mem_map.2 ⟨e, he, rfl⟩
  rw [hE] at this
  obtain ⟨p, hp, h⟩ := List.mem_map.1 this
  simp only [Prod.mk.injEq] at h
  exact ⟨p, hp, h.1.symm, h.2.symm⟩
include hK
theorem entsU_keys : ∀ e ∈ es.toList, ∃ l, keyOf P K e.key = some l := fun e he => by
  obtain ⟨p, hp, h, _⟩ := entsU_mem hE hw he
  rw [h]
  exact ⟨_, Maps.keyOf_int_mk hK (hw p hp)⟩
include hT hb hn
theorem mapU_ins (hne : ∀ p ∈ ps, p.1 ≠ n) (v : Value) : (Instr.mapUpdate T (.map (some b)) (.int q n) v).run P w = .ok () (ChangeMaps.setBlock w b (.map (es.push ⟨.int q n, v, clock⟩) (clock + 1))) ∧ EntsK q (es.push ⟨.int q n, v, clock⟩) (ps ++ [(n, v)]) := by
  have KD : Keyed P K := Maps.int_keyed hK
  have hk := Maps.keyOf_int_mk hK hn
  refine ⟨?_, ?_⟩
  · rcases KD.find w hk es.toList (entsU_keys hK hE hw) with ⟨h1, _⟩ | ⟨j, e0, _, h2, h3⟩
    · simp [Instr.mapUpdate, run_underlying hT, MapKept.run_getObj_map hb, KD.check w false hk, h1, MapKept.run_setObj_map _ hb, Result.andThen, ChangeMaps.setBlock]
    · obtain ⟨p, hp, h, _⟩ := entsU_mem hE hw (List.mem_of_getElem? h2)
      rw [h] at h3
      simp only [Value.int.injEq, true_and] at h3
      exact absurd h3 (hne p hp)
  · unfold EntsK at *
    simp [hE]
theorem mapU_get {v : Value} (hv : (n, v) ∈ ps) (hd : (ps.map (·.1)).Nodup) : (Instr.lookup T (.map (some b)) (.int q n) false).run P w = .ok v w := by
  have KD : Keyed P K := Maps.int_keyed hK
  have hk := Maps.keyOf_int_mk hK hn
  rcases KD.find w hk es.toList (entsU_keys hK hE hw) with ⟨h1, h2⟩ | ⟨j, e0, h1, h2, h3⟩
  · have : (Value.int q n, v) ∈ ps.map (fun p => (Value.int q p.1, p.2)) := List.mem_map.2 ⟨_, hv, rfl⟩
    rw [← hE] at this
    obtain ⟨e, he, h⟩ := List.mem_map.1 this
    simp only [Prod.mk.injEq] at h
    exact absurd h.1 (h2 e he)
  · obtain ⟨p, hp, h, h'⟩ := entsU_mem hE hw (List.mem_of_getElem? h2)
    rw [h] at h3
    simp only [Value.int.injEq, true_and] at h3
    have : p = (n, v) := nodup_injU hd p hp (n, v) hv h3
    rw [this] at h'
    simp [Instr.lookup, run_underlying hT, MapKept.run_getObj_map hb, KD.check w _ hk, h1, h', Result.andThen]
theorem mapU_none {z : Value} (hz : (zeroValue E).run P w = .ok z w) (hne : ∀ p ∈ ps, p.1 ≠ n) : (Instr.lookup T (.map (some b)) (.int q n) false).run P w = .ok z w := by
  have KD : Keyed P K := Maps.int_keyed hK
  have hk := Maps.keyOf_int_mk hK hn
  rcases KD.find w hk es.toList (entsU_keys hK hE hw) with ⟨h1, h2⟩ | ⟨j, e0, h1, h2, h3⟩
  · simp [Instr.lookup, run_underlying hT, MapKept.run_getObj_map hb, KD.check w _ hk, h1, hz, Result.andThen]
  · obtain ⟨p, hp, h, _⟩ := entsU_mem hE hw (List.mem_of_getElem? h2)
    rw [h] at h3
    simp only [Value.int.injEq, true_and] at h3
    exact absurd h3 (hne p hp)
end
end Go.Proofs.Ytmbmmcippglfoaa.M
