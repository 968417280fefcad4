/-
  Plain: a map of strings to whatever, by its entries: how many, a look-up, a new key, a key that goes. No program.
-/
import Derived.Test.YtifgfnifadmoaaaHeap
import Derived.Maps.Keyed
import Derived.WideKeyEntry
import Derived.WideLaws
namespace Go.Proofs.Ytifgfnifadmoaaa.M
open Go.RowKit
open Go.Maps (Keyed)
set_option linter.unusedVariables false
set_option linter.unusedSectionVars false
set_option linter.unusedSimpArgs false
theorem But.setBlock {L : List Nat} {a b : World} (h : But L a b) {g : Nat} {o' : Obj} (hg : b.heap[g]? = some o') (hp : g ∈ L ∨ a.heap.size ≤ g) (o : Obj) : But L a (ChangeMaps.setBlock b g o) :=
  ⟨h.os, h.tape, h.output, Nat.le_trans h.size (by simp [ChangeMaps.setBlock]), fun i hi hn => by
    have hne : g ≠ i := fun he => by rcases hp with h1 | h1; exact hn (he ▸ h1); omega
    rw [← h.block i hi hn]
    exact Array.getElem?_setIfInBounds_ne hne⟩
theorem setBlock_at {w : World} {b : Nat} {o o' : Obj} (h : w.heap[b]? = some o) : (ChangeMaps.setBlock w b o').heap[b]? = some o' := by
  have := (Array.getElem?_eq_some_iff.1 h).1
  simp [ChangeMaps.setBlock, this]
def EntsS (es : Array MapEntry) (ps : List (ByteArray × Value)) : Prop := es.toList.map (fun e => (e.key, e.val)) = ps.map (fun p => (Value.string p.1, p.2))
theorem nodupS_inj {α β : Type} {f : α → β} : ∀ {l : List α}, (l.map f).Nodup → ∀ p ∈ l, ∀ q ∈ l, f p = f q → p = q
  | [], _, _, hp, _, _, _ => by cases hp
  | x :: l, h, p, hp, q, hq, he => by
    rw [List.map_cons, List.nodup_cons] at h
    rcases List.mem_cons.1 hp with h1 | h1
    · rcases List.mem_cons.1 hq with h2 | h2
      · rw [h1, h2]
      · exact absurd (List.mem_map.2 ⟨q, h2, he.symm.trans (by rw [h1])⟩) h.1
    · rcases List.mem_cons.1 hq with h2 | h2
      · exact absurd (List.mem_map.2 ⟨p, h1, he.trans (by rw [h2])⟩) h.1
      · exact nodupS_inj h.2 p h1 q h2 he
/-- Block b is a map of these entries. -/
def MapS (w : World) (b : Nat) (ps : List (ByteArray × Value)) : Prop := ∃ es clock, w.heap[b]? = some (.map es clock) ∧ EntsS es ps ∧ (∀ e ∈ es.toList, e.born < clock) ∧ (es.toList.map (·.born)).Nodup
theorem MapS.but {L : List Nat} {w w' : World} {b : Nat} {ps : List (ByteArray × Value)} (h : MapS w b ps) (hb : But L w w') (hn : b ∉ L) : MapS w' b ps := by
  obtain ⟨es, clock, h1, h2⟩ := h
  exact ⟨es, clock, hb.heap h1 hn, h2⟩
theorem MapS.lt {w : World} {b : Nat} {ps : List (ByteArray × Value)} (h : MapS w b ps) : b < w.heap.size := by
  obtain ⟨es, clock, h1, h2⟩ := h
  exact lt_of h1
theorem MapS.is {w : World} {b : Nat} {ps : List (ByteArray × Value)} (h : MapS w b ps) : ∃ es clock, w.heap[b]? = some (.map es clock) := by
  obtain ⟨es, clock, h1, h2⟩ := h
  exact ⟨es, clock, h1⟩
theorem mapS_new (w : World) : MapS (w.alloc (.map #[] 0)) w.heap.size [] := ⟨#[], 0, Array.getElem?_push_size, rfl, (fun e he => by cases he), List.nodup_nil⟩
section
variable {P : Program} {T K E : TypeId} (hK : P.underlying K = some .string) (hT : P.underlying T = some (.map K E)) {w : World} {b : Nat} {es : Array MapEntry} {clock : Nat} {ps : List (ByteArray × Value)}
  (hb : w.heap[b]? = some (.map es clock)) (hE : EntsS es ps) (hw : ∀ p ∈ ps, p.1.size ≤ maxLen) {n : ByteArray} (hn : n.size ≤ maxLen)
include hE hw
theorem entsS_mem {e : MapEntry} (he : e ∈ es.toList) : ∃ p ∈ ps, e.key = .string p.1 ∧ e.val = p.2 := by
  have : (e.key, e.val) ∈ es.toList.map (fun e => (e.key, e.val)) := List.mem_map.2 ⟨e, he, rfl⟩
  rw [hE] at this
  obtain ⟨p, hp, h⟩ := List.mem_map.1 this
  simp only [Prod.mk.injEq] at h
  exact ⟨p, hp, h.1.symm, h.2.symm⟩
include hK
theorem entsS_keys : ∀ e ∈ es.toList, ∃ l, keyOf P K e.key = some l := fun e he => by
  obtain ⟨p, hp, h, _⟩ := entsS_mem hE hw he
  rw [h]
  exact ⟨_, WideMaps.keyOf_string_mk hK (hw p hp)⟩
include hT hb hn
theorem mapS_entry0 (hst : ∀ e ∈ es.toList, e.born < clock) (hnd : (es.toList.map (·.born)).Nodup) {z : Value} (hz : ∀ u : World, (zeroValue E).run P u = .ok z u) (hne : ∀ p ∈ ps, p.1 ≠ n) :
    (Instr.mapEntry T (.map (some b)) (.string n)).run P w = .ok (.tuple #[z, goInt clock]) (ChangeMaps.setBlock w b (.map (es.push ⟨.string n, z, clock⟩) (clock + 1))) ∧
    (∀ (w2 : World) (val : Value), w2.heap[b]? = some (.map (es.push ⟨.string n, z, clock⟩) (clock + 1)) → (Instr.entryStore T (.map (some b)) (goInt clock) val).run P w2 = .ok () (ChangeMaps.setBlock w2 b (.map (es.push ⟨.string n, val, clock⟩) (clock + 1)))) := by
  have KD : Keyed P K := Maps.string_keyed hK
  have hk := WideMaps.keyOf_string_mk hK hn
  have h1 : (Instr.findKey K (.string n) es.toList).run P w = .ok none w := by
    rcases KD.find w hk es.toList (entsS_keys hK hE hw) with ⟨h1, _⟩ | ⟨j, e0, _, h2, h3⟩
    · exact h1
    · obtain ⟨p, hp, h, _⟩ := entsS_mem hE hw (List.mem_of_getElem? h2)
      rw [h] at h3
      simp only [Value.string.injEq] at h3
      exact absurd h3 (hne p hp)
  refine ⟨?_, fun w2 val hw2 => ?_⟩
  · simp [Instr.mapEntry, run_underlying hT, MapKept.run_getObj_map hb, KD.check w false hk, h1, hz, MapKept.run_setObj_map _ hb, Result.andThen, ChangeMaps.setBlock]
  · have hidx : (es.push ⟨.string n, z, clock⟩).findIdx? (fun e => ((e.born : Nat) : Int) == ((clock : Nat) : Int)) = some es.size := by
      rw [WideElems.findIdx_arr]
      have := WideElems.findIdx_born (l := (es.push ⟨.string n, z, clock⟩).toList) (j := es.size) (e0 := ⟨.string n, z, clock⟩) (by
        simp only [Array.toList_push, List.map_append, List.map_cons, List.map_nil]
        refine List.nodup_append.2 ⟨hnd, by simp, fun a ha c hc e1 => ?_⟩
        simp only [List.mem_singleton] at hc
        obtain ⟨x, hx, rfl⟩ := List.mem_map.1 ha
        have := hst x hx
        omega) (by simp)
      exact this
    have hmod : (es.push ⟨.string n, z, clock⟩).modify es.size (fun e => { e with val := val }) = es.push ⟨.string n, val, clock⟩ := by
      apply Array.ext'
      rw [Array.toList_modify, Array.toList_push, Array.toList_push, ← Array.length_toList, WideElems.modify_last]
    simp [Instr.entryStore, MapKept.run_getObj_map hw2, asInt, asIntOf, goInt, hidx, hmod, MapKept.run_setObj_map _ hw2, Result.andThen, ChangeMaps.setBlock]
theorem mapS_get0 {v : Value} (hv : (n, v) ∈ ps) (hd : (ps.map (·.1)).Nodup) : (Instr.lookup T (.map (some b)) (.string n) true).run P w = .ok (.tuple #[v, .bool true]) w := by
  have KD : Keyed P K := Maps.string_keyed hK
  have hk := WideMaps.keyOf_string_mk hK hn
  rcases KD.find w hk es.toList (entsS_keys hK hE hw) with ⟨h1, h2⟩ | ⟨j, e0, h1, h2, h3⟩
  · have : (Value.string n, v) ∈ ps.map (fun p => (Value.string p.1, p.2)) := List.mem_map.2 ⟨_, hv, rfl⟩
    rw [← hE] at this
    obtain ⟨e, he, h⟩ := List.mem_map.1 this
    simp only [Prod.mk.injEq] at h
    exact absurd h.1 (h2 e he)
  · obtain ⟨p, hp, h, h'⟩ := entsS_mem hE hw (List.mem_of_getElem? h2)
    rw [h] at h3
    simp only [Value.string.injEq] at h3
    have : p = (n, v) := nodupS_inj hd p hp (n, v) hv h3
    rw [this] at h'
    simp [Instr.lookup, run_underlying hT, MapKept.run_getObj_map hb, KD.check w _ hk, h1, h', Result.andThen]
theorem mapS_none0 {z : Value} (hz : (zeroValue E).run P w = .ok z w) (hne : ∀ p ∈ ps, p.1 ≠ n) : (Instr.lookup T (.map (some b)) (.string n) true).run P w = .ok (.tuple #[z, .bool false]) w := by
  have KD : Keyed P K := Maps.string_keyed hK
  have hk := WideMaps.keyOf_string_mk hK hn
  rcases KD.find w hk es.toList (entsS_keys hK hE hw) with ⟨h1, h2⟩ | ⟨j, e0, h1, h2, h3⟩
  · simp [Instr.lookup, run_underlying hT, MapKept.run_getObj_map hb, KD.check w _ hk, h1, hz, Result.andThen]
  · obtain ⟨p, hp, h, _⟩ := entsS_mem hE hw (List.mem_of_getElem? h2)
    rw [h] at h3
    simp only [Value.string.injEq] at h3
    exact absurd h3 (hne p hp)
theorem mapS_del0 {v : Value} (hv : (n, v) ∈ ps) (hd : (ps.map (·.1)).Nodup) (ty : TypeId) : ∃ j, (Builtin.delete_ #[T, K] ty #[.map (some b), .string n]).run P w = .ok (.tuple #[]) (ChangeMaps.setBlock w b (.map (es.eraseIdxIfInBounds j) clock)) ∧ EntsS (es.eraseIdxIfInBounds j) (ps.filter (fun p => decide (p.1 ≠ n))) := by
  have KD : Keyed P K := Maps.string_keyed hK
  have hk := WideMaps.keyOf_string_mk hK hn
  rcases KD.find w hk es.toList (entsS_keys hK hE hw) with ⟨h1, h2⟩ | ⟨j, e0, h1, h2, h3⟩
  · have : (Value.string n, v) ∈ ps.map (fun p => (Value.string p.1, p.2)) := List.mem_map.2 ⟨_, hv, rfl⟩
    rw [← hE] at this
    obtain ⟨e, he, h⟩ := List.mem_map.1 this
    simp only [Prod.mk.injEq] at h
    exact absurd h.1 (h2 e he)
  · refine ⟨j, ?_, ?_⟩
    · simp [Builtin.delete_, run_underlying hT, MapKept.run_getObj_map hb, KD.check w _ hk, h1, MapKept.run_setObj_map _ hb, Result.andThen, ChangeMaps.setBlock]
    · have hj : (ps.map (fun p => (Value.string p.1, p.2)))[j]? = some (e0.key, e0.val) := by rw [← hE, List.getElem?_map, h2]; rfl
      rw [List.getElem?_map] at hj
      obtain ⟨q, hq, hqe⟩ := Option.map_eq_some_iff.1 hj
      simp only [Prod.mk.injEq] at hqe
      have hqn : q.1 = n := by
        have := hqe.1.trans h3
        simpa using this
      have hf : ps.filter (fun p => decide (p.1 ≠ n)) = ps.eraseIdx j := by
        refine (List.filter_congr (fun p hp => ?_)).trans (ChangeMaps.filter_eq_eraseIdx (fun p => decide (p.1 = n)) ps j q hq (by simp [hqn]) ?_)
        · by_cases h : p.1 = n <;> simp [h]
        · refine List.Pairwise.imp ?_ (List.pairwise_map.1 hd)
          intro a c hac h
          simp only [decide_eq_true_eq] at h
          exact hac (h.1.trans h.2.symm)
      rw [hf]
      unfold EntsS at *
      have : (es.eraseIdxIfInBounds j).toList = es.toList.eraseIdx j := by simp
      rw [this, ChangeMaps.map_eraseIdx, ChangeMaps.map_eraseIdx, hE]
end
section
variable {P : Program} {T K E : TypeId} (hK : P.underlying K = some .string) (hT : P.underlying T = some (.map K E)) {w : World} {b : Nat} {ps : List (ByteArray × Value)} (h : MapS w b ps) (hw : ∀ p ∈ ps, p.1.size ≤ maxLen) {n : ByteArray} (hn : n.size ≤ maxLen)
include hK hT h hw hn
theorem mapS_get {v : Value} (hv : (n, v) ∈ ps) (hd : (ps.map (·.1)).Nodup) : (Instr.lookup T (.map (some b)) (.string n) true).run P w = .ok (.tuple #[v, .bool true]) w := by
  obtain ⟨es, clock, hb, hE, _⟩ := h
  exact mapS_get0 hK hT hb hE hw hn hv hd
theorem mapS_none {z : Value} (hz : (zeroValue E).run P w = .ok z w) (hne : ∀ p ∈ ps, p.1 ≠ n) : (Instr.lookup T (.map (some b)) (.string n) true).run P w = .ok (.tuple #[z, .bool false]) w := by
  obtain ⟨es, clock, hb, hE, _⟩ := h
  exact mapS_none0 hK hT hb hE hw hn hz hne
theorem mapS_del {v : Value} (hv : (n, v) ∈ ps) (hd : (ps.map (·.1)).Nodup) (ty : TypeId) : ∃ w', (Builtin.delete_ #[T, K] ty #[.map (some b), .string n]).run P w = .ok (.tuple #[]) w' ∧ MapS w' b (ps.filter (fun p => decide (p.1 ≠ n))) ∧ But [b] w w' := by
  obtain ⟨es, clock, hb, hE, hst, hnd⟩ := h
  obtain ⟨j, h1, h2⟩ := mapS_del0 hK hT hb hE hw hn hv hd ty
  refine ⟨_, h1, ⟨_, clock, setBlock_at hb, h2, fun e he => ?_, ?_⟩, (But.refl _ _).setBlock hb (.inl (by simp)) _⟩
  · rw [Array.toList_eraseIdxIfInBounds] at he
    exact hst e (List.mem_of_mem_eraseIdx he)
  · rw [Array.toList_eraseIdxIfInBounds, ChangeMaps.map_eraseIdx]
    exact hnd.eraseIdx _
/-- A new key. -/
theorem mapS_entry {z : Value} (hz : ∀ u : World, (zeroValue E).run P u = .ok z u) (hne : ∀ p ∈ ps, p.1 ≠ n) : ∃ st w1, (Instr.mapEntry T (.map (some b)) (.string n)).run P w = .ok (.tuple #[z, st]) w1 ∧ But [b] w w1 ∧
    ∀ (w2 : World) (val : Value), w2.heap[b]? = w1.heap[b]? → ∃ w3, (Instr.entryStore T (.map (some b)) st val).run P w2 = .ok () w3 ∧ But [b] w2 w3 ∧ MapS w3 b (ps ++ [(n, val)]) := by
  obtain ⟨es, clock, hb, hE, hst, hnd⟩ := h
  obtain ⟨h1, h2⟩ := mapS_entry0 hK hT hb hE hw hn hst hnd hz hne
  refine ⟨_, _, h1, (But.refl _ _).setBlock hb (.inl (by simp)) _, fun w2 val hw2 => ?_⟩
  rw [setBlock_at hb] at hw2
  refine ⟨_, h2 w2 val hw2, (But.refl _ _).setBlock hw2 (.inl (by simp)) _, _, _, setBlock_at hw2, ?_, fun e he => ?_, ?_⟩
  · unfold EntsS at *
    simp [hE]
  · rw [Array.toList_push, List.mem_append] at he
    rcases he with he | he
    · have := hst e he; omega
    · simp only [List.mem_singleton] at he
      subst he
      exact Nat.lt_succ_self _
  · rw [Array.toList_push, List.map_append, List.map_cons, List.map_nil]
    refine List.nodup_append.2 ⟨hnd, by simp, fun a ha c hc e1 => ?_⟩
    simp only [List.mem_singleton] at hc
    obtain ⟨x, hx, rfl⟩ := List.mem_map.1 ha
    have := hst x hx
    omega
end
theorem mapS_len {P : Program} {t ty : TypeId} {w : World} {b : Nat} {ps : List (ByteArray × Value)} (ht : P.underlying t = some (.map (P.mapKeyOf t) (P.mapElemOf t))) (h : MapS w b ps) : (Builtin.len_ #[t] ty #[.map (some b)]).run P w = .ok (goInt ps.length) w := by
  obtain ⟨es, clock, hb, hE, _⟩ := h
  have hl : es.size = ps.length := by
    have := congrArg List.length hE
    simpa using this
  rw [← hl]
  simp [Builtin.len_, run_underlying ht, MapKept.run_getObj_map hb, Result.andThen, goInt]
end Go.Proofs.Ytifgfnifadmoaaa.M
