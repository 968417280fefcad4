/-
  Plain: a map of integers to whatever, by its entries: a new key, a look-up, a key that goes. No program.
-/
import Derived.Test.YtmleaogklpogdaaHeap
namespace Go.Proofs.Ytmleaogklpogdaa.M
open Go.RowKit
open Go.Maps (Keyed)
set_option linter.unusedVariables false
set_option linter.unusedSectionVars false
set_option linter.unusedSimpArgs false
theorem But.setBlock {L : List Nat} {a b : World} (h : But L a b) {g : Nat} {o' : Obj} (hg : b.heap[g]? = some o') (hp : g ∈ L ∨ a.heap.size ≤ g) (o : Obj) : But L a (ChangeMaps.setBlock b g o) :=
  ⟨h.os, h.tape, h.output, Nat.le_trans h.size (by simp [ChangeMaps.setBlock]), fun i hi hn => by
    have hne : g ≠ i := fun he => by rcases hp with h1 | h1; exact hn (he ▸ h1); omega
    rw [← h.block i hi hn]
    exact Array.getElem?_setIfInBounds_ne hne⟩
def Ents (es : Array MapEntry) (ps : List (Int × Value)) : Prop := es.toList.map (fun e => (e.key, e.val)) = ps.map (fun p => (Value.int .i64 p.1, p.2))
def Wf (n : Int) : Prop := (Lit.int .i64 n).wf = true
theorem wf_of {n : Int} (h1 : -9223372036854775808 ≤ n) (h2 : n ≤ 9223372036854775807) : Wf n := by
  have e1 : IntKind.i64.min = -9223372036854775808 := rfl
  have e2 : IntKind.i64.max = 9223372036854775807 := rfl
  simp only [Wf, Lit.wf, Bool.and_eq_true, decide_eq_true_eq]
  exact ⟨by omega, by omega⟩
theorem nodup_inj {α β : Type} {f : α → β} : ∀ {l : List α}, (l.map f).Nodup → ∀ p ∈ l, ∀ q ∈ l, f p = f q → p = q
  | [], _, _, hp, _, _, _ => by cases hp
  | x :: l, h, p, hp, q, hq, he => by
    rw [List.map_cons, List.nodup_cons] at h
    rcases List.mem_cons.1 hp with h1 | h1
    · rcases List.mem_cons.1 hq with h2 | h2
      · rw [h1, h2]
      · exact absurd (List.mem_map.2 ⟨q, h2, he.symm.trans (by rw [h1])⟩) h.1
    · rcases List.mem_cons.1 hq with h2 | h2
      · exact absurd (List.mem_map.2 ⟨p, h1, he.trans (by rw [h2])⟩) h.1
      · exact nodup_inj h.2 p h1 q h2 he
section
variable {P : Program} {T K E : TypeId} (hK : P.underlying K = some (.int .i64)) (hT : P.underlying T = some (.map K E)) {w : World} {b : Nat} {es : Array MapEntry} {clock : Nat} {ps : List (Int × Value)}
  (hb : w.heap[b]? = some (.map es clock)) (hE : Ents es ps) (hw : ∀ p ∈ ps, Wf p.1) {n : Int} (hn : Wf n)
include hE hw
theorem ents_mem {e : MapEntry} (he : e ∈ es.toList) : ∃ p ∈ ps, e.key = .int .i64 p.1 ∧ e.val = p.2 := by
  have : (e.key, e.val) ∈ es.toList.map (fun e => (e.key, e.val)) := List.mem_map.2 ⟨e, he, rfl⟩
  rw [hE] at this
  obtain ⟨p, hp, h⟩ := List.mem_map.1 this
  simp only [Prod.mk.injEq] at h
  exact ⟨p, hp, h.1.symm, h.2.symm⟩
include hK
theorem ents_keys : ∀ e ∈ es.toList, ∃ l, keyOf P K e.key = some l := fun e he => by
  obtain ⟨p, hp, h, _⟩ := ents_mem hE hw he
  rw [h]
  exact ⟨_, Maps.keyOf_int_mk hK (hw p hp)⟩
include hT hb hn
theorem map_ins (hne : ∀ p ∈ ps, p.1 ≠ n) (v : Value) : (Instr.mapUpdate T (.map (some b)) (.int .i64 n) v).run P w = .ok () (ChangeMaps.setBlock w b (.map (es.push ⟨.int .i64 n, v, clock⟩) (clock + 1))) ∧ Ents (es.push ⟨.int .i64 n, v, clock⟩) (ps ++ [(n, v)]) := by
  have KD : Keyed P K := Maps.int_keyed hK
  have hk := Maps.keyOf_int_mk hK hn
  refine ⟨?_, ?_⟩
  · rcases KD.find w hk es.toList (ents_keys hK hE hw) with ⟨h1, _⟩ | ⟨j, e0, _, h2, h3⟩
    · simp [Instr.mapUpdate, run_underlying hT, MapKept.run_getObj_map hb, KD.check w false hk, h1, MapKept.run_setObj_map _ hb, Result.andThen, ChangeMaps.setBlock]
    · obtain ⟨p, hp, h, _⟩ := ents_mem hE hw (List.mem_of_getElem? h2)
      rw [h] at h3
      simp only [Value.int.injEq, true_and] at h3
      exact absurd h3 (hne p hp)
  · unfold Ents at *
    simp [hE]
theorem map_get {v : Value} (hv : (n, v) ∈ ps) (hd : (ps.map (·.1)).Nodup) : (Instr.lookup T (.map (some b)) (.int .i64 n) true).run P w = .ok (.tuple #[v, .bool true]) w := by
  have KD : Keyed P K := Maps.int_keyed hK
  have hk := Maps.keyOf_int_mk hK hn
  rcases KD.find w hk es.toList (ents_keys hK hE hw) with ⟨h1, h2⟩ | ⟨j, e0, h1, h2, h3⟩
  · have : (Value.int .i64 n, v) ∈ ps.map (fun p => (Value.int .i64 p.1, p.2)) := List.mem_map.2 ⟨_, hv, rfl⟩
    rw [← hE] at this
    obtain ⟨e, he, h⟩ := List.mem_map.1 this
    simp only [Prod.mk.injEq] at h
    exact absurd h.1 (h2 e he)
  · obtain ⟨p, hp, h, h'⟩ := ents_mem hE hw (List.mem_of_getElem? h2)
    rw [h] at h3
    simp only [Value.int.injEq, true_and] at h3
    have : p = (n, v) := nodup_inj hd p hp (n, v) hv h3
    rw [this] at h'
    simp [Instr.lookup, run_underlying hT, MapKept.run_getObj_map hb, KD.check w _ hk, h1, h', Result.andThen]
theorem map_none {z : Value} (hz : (zeroValue E).run P w = .ok z w) (hne : ∀ p ∈ ps, p.1 ≠ n) : (Instr.lookup T (.map (some b)) (.int .i64 n) true).run P w = .ok (.tuple #[z, .bool false]) w := by
  have KD : Keyed P K := Maps.int_keyed hK
  have hk := Maps.keyOf_int_mk hK hn
  rcases KD.find w hk es.toList (ents_keys hK hE hw) with ⟨h1, h2⟩ | ⟨j, e0, h1, h2, h3⟩
  · simp [Instr.lookup, run_underlying hT, MapKept.run_getObj_map hb, KD.check w _ hk, h1, hz, Result.andThen]
  · obtain ⟨p, hp, h, _⟩ := ents_mem hE hw (List.mem_of_getElem? h2)
    rw [h] at h3
    simp only [Value.int.injEq, true_and] at h3
    exact absurd h3 (hne p hp)
theorem map_del {v : Value} (hv : (n, v) ∈ ps) (hd : (ps.map (·.1)).Nodup) (ty : TypeId) : ∃ es', (Builtin.delete_ #[T, K] ty #[.map (some b), .int .i64 n]).run P w = .ok (.tuple #[]) (ChangeMaps.setBlock w b (.map es' clock)) ∧ Ents es' (ps.filter (fun p => p.1 != n)) := by
  have KD : Keyed P K := Maps.int_keyed hK
  have hk := Maps.keyOf_int_mk hK hn
  rcases KD.find w hk es.toList (ents_keys hK hE hw) with ⟨h1, h2⟩ | ⟨j, e0, h1, h2, h3⟩
  · have : (Value.int .i64 n, v) ∈ ps.map (fun p => (Value.int .i64 p.1, p.2)) := List.mem_map.2 ⟨_, hv, rfl⟩
    rw [← hE] at this
    obtain ⟨e, he, h⟩ := List.mem_map.1 this
    simp only [Prod.mk.injEq] at h
    exact absurd h.1 (h2 e he)
  · refine ⟨es.eraseIdxIfInBounds j, ?_, ?_⟩
    · simp [Builtin.delete_, run_underlying hT, MapKept.run_getObj_map hb, KD.check w _ hk, h1, MapKept.run_setObj_map _ hb, Result.andThen, ChangeMaps.setBlock]
    · have hj : (ps.map (fun p => (Value.int .i64 p.1, p.2)))[j]? = some (e0.key, e0.val) := by rw [← hE, List.getElem?_map, h2]; rfl
      rw [List.getElem?_map] at hj
      obtain ⟨q, hq, hqe⟩ := Option.map_eq_some_iff.1 hj
      simp only [Prod.mk.injEq] at hqe
      have hqn : q.1 = n := by
        have := hqe.1.trans h3
        simpa using this
      have hf : ps.filter (fun p => p.1 != n) = ps.eraseIdx j := by
        refine (List.filter_congr (fun p hp => ?_)).trans (ChangeMaps.filter_eq_eraseIdx (fun p => p.1 == n) ps j q hq (by simp [hqn]) ?_)
        · simp [bne]
        · refine List.Pairwise.imp ?_ (List.pairwise_map.1 hd)
          intro a c hac h
          simp only [beq_iff_eq] at h
          exact hac (h.1.trans h.2.symm)
      rw [hf]
      unfold Ents at *
      have : (es.eraseIdxIfInBounds j).toList = es.toList.eraseIdx j := by simp
      rw [this, ChangeMaps.map_eraseIdx, ChangeMaps.map_eraseIdx, hE]
end
end Go.Proofs.Ytmleaogklpogdaa.M
