/-
  Merged: Open, OpenS.
-/
import Derived.Test.YtpoinhfkgnkedaaGA
import Derived.ReadAgain
import Derived.SizedLaws
import Derived.Deep.Matrix
import Derived.ProofKit
import Derived.Deep.Fields
namespace Go.Proofs.Ytpoinhfkgnkedaa.M
open Go.RowKit Go.Deep
set_option linter.unusedVariables false
set_option linter.unusedSectionVars false
set_option linter.unusedSimpArgs false
def IsBytes (xs : List Value) : Prop := ∀ u ∈ xs, ∃ n : Int, u = .int .u8 n
theorem IsBytes.one {xs : List Value} (h : IsBytes xs) : ∀ u ∈ xs, u.oneCell' = true := fun u hu => by obtain ⟨n, rfl⟩ := h u hu; rfl
/-- Rows of bytes, as they lie. -/
def SeesRows (w : World) (v : Value) (rows : List (List Value)) : Prop := ∃ vals : List Value, Sees w v vals ∧ vals.length = rows.length ∧ ∀ (i : Nat) (x : Value) (r : List Value), vals[i]? = some x → rows[i]? = some r → Sees w x r
theorem SeesRows.new {w w' : World} {v : Value} {rows : List (List Value)} (h : SeesRows w v rows) (hb : But [] w w') : SeesRows w' v rows := by
  obtain ⟨vals, h1, h2, h3⟩ := h
  exact ⟨vals, h1.but hb (by simp), h2, fun i x r hx hr => (h3 i x r hx hr).but hb (by simp)⟩
section
variable {H : Type} {enc : TypeId × Value → H} {P : Program} {w w' : World}
theorem trodAll_keep {sp : Nat → Bool} (hb : Below w.heap.size w w') : ∀ {ts : List TypeId} {vs : List Value} {ds : List (DataW H)} {ps : List MemPlace}, DataW.TrodAll enc P w 0 sp true ts vs ds ps → (∀ p ∈ ps, p.block < w.heap.size) → DataW.TrodAll enc P w' 0 sp true ts vs ds ps
  | [], [], [], _, h, _ => h
  | _ :: _, _ :: _, _ :: _, _, ⟨p, q, ⟨n, h1⟩, h2, e⟩, hs => ⟨p, q, ⟨n, DataW.trod_carry n _ _ _ h1 (fun x hx => hb.same (hs x (by rw [e]; exact List.mem_append_left _ hx)))⟩, trodAll_keep hb h2 (fun x hx => hs x (by rw [e]; exact List.mem_append_right _ hx)), e⟩
/-- What came in reads again. -/
theorem args_again (hl : laidOutB P = true) (hm : mapsRowed P = true) (hz : ((List.range P.types.size).all fun t => match P.underlying t with | some (.slice e) => decide (0 < P.cellsOf e) | _ => true) = true)
    {ts : List TypeId} {vs : List Value} {ds : List (DataW H)} {ps : List MemPlace} (hts : ∀ t ∈ ts, t < P.types.size) (h : DataW.TrodAll enc P w 0 (fun _ => true) true ts vs ds ps) (hb : Below w.heap.size w w') :
    DataW.TrodAll enc P w' 0 (fun b => decide (b < w.heap.size)) true ts vs ds ps := by
  have hlt := h.lt
  exact trodAll_keep hb (h.respare (T := (· < P.types.size)) (kids_rows hl hm) (slices_full_of P hz) hts (fun p hp => by simpa using hlt p hp)) hlt
theorem sized_at {ts : List TypeId} {ds : List (DataW H)} (h : (DataW.weightsEach P ts ds).all (· ≤ reachBytes) = true) (j : Nat) (t : TypeId) (d : DataW H) (ht : ts[j]? = some t) (hd : ds[j]? = some d) : ∀ n ∈ d.weights P t, n ≤ reachBytes := fun n hn => by
  simpa using List.all_eq_true.1 h _ (DataW.weights_mem_each ht hd n hn)
theorem weights_all {e : TypeId} : ∀ {l : List (DataW H)} {d : DataW H}, d ∈ l → ∀ n ∈ d.weights P e, n ∈ DataW.weightsAll P e l
  | x :: l, d, hd, n, hn => by
    simp only [DataW.weightsAll, List.mem_append]
    rcases List.mem_cons.1 hd with rfl | hd
    · exact .inl hn
    · exact .inr (weights_all hd n hn)
theorem bytes_in {t e : TypeId} (ht : P.underlying t = some (.slice e)) (he : P.underlying e = some (.int .u8)) (hc : P.cellsOf e = 1) (h1 : P.bytesOf e = 1) {base : Nat} {v : Value} {d : DataW H} {ps : List MemPlace}
    (hval : Value.okWide P w .any base t v) (h : DataW.Trod enc P w 0 (fun _ => true) true t v d ps) (hsz : ∀ n ∈ d.weights P t, n ≤ reachBytes) :
    ∃ xs, Sees w v xs ∧ IsBytes xs ∧ xs.length ≤ 140737488351232 := by
  obtain ⟨a1, len, cap, rfl⟩ := WideShapes.okWide_slice ht hval
  obtain ⟨fuel, hf⟩ := h
  rcases ChangeShapes.open_ints ht he hc hf with ⟨hcs, hx⟩ | ⟨a, len', cap', zs, hcs, _, hl, hm, hz, hx, hcell, hwz⟩
  · simp [Value.cells] at hcs
    obtain ⟨rfl, rfl, rfl⟩ := hcs
    exact ⟨[], .inl ⟨rfl, rfl⟩, (fun u hu => by cases hu), Nat.zero_le _⟩
  · simp [Value.cells] at hcs
    obtain ⟨rfl, rfl, rfl⟩ := hcs
    simp only [Prod.mk.injEq] at hx
    obtain ⟨rfl, rfl⟩ := hx
    simp only [if_true] at hz
    have hw := hsz (cap * P.bytesOf e) (by
      simp only [DataW.weights, ht, List.mem_cons]
      left
      simp only [ChangeShapes.lits, List.length_map, List.length_take, List.length_drop, hz]
      congr 1
      omega)
    rw [h1, Nat.mul_one] at hw
    have hr : reachBytes = 140737488351232 := rfl
    refine ⟨(zs.take len).map (.int .u8), .inr ⟨a, cap, ?_, ?_, fun j u hu => ?_⟩, fun u hu => ?_, ?_⟩
    · simp; omega
    · simp; omega
    · rw [List.getElem?_map] at hu
      obtain ⟨z, hz2, rfl⟩ := Option.map_eq_some_iff.1 hu
      have hj : j < zs.length := by
        have := (List.getElem?_eq_some_iff.1 hz2).1
        simp at this
        omega
      rw [hcell j hj]
      rw [List.getElem?_take] at hz2
      split at hz2
      · simp [List.getD, hz2]
      · cases hz2
    · obtain ⟨z, _, rfl⟩ := List.mem_map.1 hu
      exact ⟨z, rfl⟩
    · simp; omega
theorem rows_in {t e q : TypeId} (ht : P.underlying t = some (.slice e)) (he : P.underlying e = some (.slice q)) (hq : P.underlying q = some (.int .u8)) (ce : P.cellsOf e = 1) (cq : P.cellsOf q = 1) (b1 : 1 ≤ P.bytesOf e) (h1 : P.bytesOf q = 1)
    {base : Nat} {v : Value} {d : DataW H} {ps : List MemPlace} (hval : Value.okWide P w .any base t v) (h : DataW.Trod enc P w 0 (fun _ => true) true t v d ps) (hsz : ∀ n ∈ d.weights P t, n ≤ reachBytes) :
    ∃ rows, SeesRows w v rows ∧ rows.length ≤ 140737488351232 ∧ ∀ r ∈ rows, IsBytes r ∧ r.length ≤ 140737488351232 := by
  obtain ⟨a1, len, cap, rfl⟩ := WideShapes.okWide_slice ht hval
  obtain ⟨fuel, hf⟩ := h
  have hr : reachBytes = 140737488351232 := rfl
  rcases open_int_rows ht he hq ce cq hf with ⟨hcs, hx⟩ | ⟨a, len', cap', A, L, C, Z, hcs, _, hl, hm, hx, hrow⟩
  · simp [Value.cells] at hcs
    obtain ⟨rfl, rfl, rfl⟩ := hcs
    exact ⟨[], ⟨[], .inl ⟨rfl, rfl⟩, rfl, fun i x r hx => by cases hx⟩, Nat.zero_le _, fun r hr => by cases hr⟩
  · simp [Value.cells] at hcs
    obtain ⟨rfl, rfl, rfl⟩ := hcs
    simp only [Prod.mk.injEq] at hx
    obtain ⟨rfl, rfl⟩ := hx
    have hw0 := hsz ((len + (cap - len)) * P.bytesOf e) (by
      simp only [DataW.weights, ht, List.mem_cons]
      left
      simp)
    have hwi : ∀ i, i < len → ∀ n ∈ (intRow (H := H) .u8 (A i) (L i) (Z i)).weights P e, n ≤ reachBytes := fun i hi n hn => hsz n (by
      simp only [DataW.weights, ht, List.mem_cons, List.mem_append]
      right; left
      exact weights_all (List.mem_map.2 ⟨i, List.mem_range.2 hi, rfl⟩) n hn)
    have hci : ∀ i, i < len → C i ≤ 140737488351232 := fun i hi => by
      obtain ⟨hcell, hLC, hCm, hZ, hwf, hnone, hsome⟩ := hrow i (by omega)
      cases hA : A i with
      | none => have := hnone hA; omega
      | some a' =>
        have := hwi i hi (C i * P.bytesOf q) (by
          simp only [intRow, hA, DataW.weights, he, List.mem_cons]
          left
          simp only [ChangeShapes.lits, List.length_map, List.length_take, List.length_drop, hZ]
          congr 1
          omega)
        rw [h1, Nat.mul_one] at this
        omega
    have hlb : len ≤ 140737488351232 := by
      have h2 : len + (cap - len) ≤ (len + (cap - len)) * P.bytesOf e := Nat.le_mul_of_pos_right _ b1
      omega
    refine ⟨(List.range len).map fun i => ((Z i).take (L i)).map (.int .u8), ⟨(List.range len).map fun i => .slice (A i) (L i) (C i), .inr ⟨a, cap, by simp, by simp; omega, fun j u hu => ?_⟩, by simp, fun i x r hx hr => ?_⟩, by simp; omega, fun r hr => ?_⟩
    · rw [List.getElem?_map] at hu
      obtain ⟨z, hz2, rfl⟩ := Option.map_eq_some_iff.1 hu
      obtain ⟨hj, rfl⟩ := List.getElem?_eq_some_iff.1 hz2
      simp at hj
      simpa using (hrow j (by omega)).1
    · rw [List.getElem?_map] at hx hr
      obtain ⟨z, hz2, rfl⟩ := Option.map_eq_some_iff.1 hx
      rw [hz2] at hr
      obtain rfl := Option.some.inj hr
      obtain ⟨hj, rfl⟩ := List.getElem?_eq_some_iff.1 hz2
      simp only [List.length_range] at hj
      simp only [List.getElem_range]
      obtain ⟨hcell, hLC, hCm, hZ, hwf, hnone, hsome⟩ := hrow i (by omega)
      cases hA : A i with
      | none =>
        have h0 := hnone hA
        left
        refine ⟨by rw [h0, show L i = 0 by omega], ?_⟩
        rw [show L i = 0 by omega]
        rfl
      | some a' =>
        right
        refine ⟨a', C i, ?_, ?_, fun j u hu => ?_⟩
        · simp; omega
        · simp; omega
        · rw [List.getElem?_map] at hu
          obtain ⟨z, hz3, rfl⟩ := Option.map_eq_some_iff.1 hu
          have hj2 : j < C i := by
            have := (List.getElem?_eq_some_iff.1 hz3).1
            simp at this
            omega
          rw [(hsome a' hA).2 j hj2]
          rw [List.getElem?_take] at hz3
          split at hz3
          · simp [List.getD, hz3]
          · cases hz3
    · obtain ⟨i, hi, rfl⟩ := List.mem_map.1 hr
      have hi := List.mem_range.1 hi
      obtain ⟨hcell, hLC, hCm, hZ, hwf, hnone, hsome⟩ := hrow i (by omega)
      have := hci i hi
      refine ⟨fun u hu => ?_, by simp; omega⟩
      obtain ⟨z, _, rfl⟩ := List.mem_map.1 hu
      exact ⟨z, rfl⟩
end
end Go.Proofs.Ytpoinhfkgnkedaa.M
namespace Go.Proofs.Ytpoinhfkgnkedaa.M
open Go.RowKit Go.Deep
set_option linter.unusedVariables false
set_option linter.unusedSectionVars false
set_option linter.unusedSimpArgs false
section
variable {H : Type} {enc : TypeId × Value → H} {P : Program} {w : World}
/-- A slice of bytes, read off its one cell. -/
theorem bytes_cell {t e : TypeId} (ht : P.underlying t = some (.slice e)) (he : P.underlying e = some (.int .u8)) (hc : P.cellsOf e = 1) (h1 : P.bytesOf e = 1) {n : Nat} {v : Value} {y : DataW H × List MemPlace}
    (h : DataW.trod enc P w 0 (fun _ => true) true n t [v] = some y) (hsz : ∀ n ∈ y.1.weights P t, n ≤ reachBytes) :
    ∃ xs, Sees w v xs ∧ IsBytes xs ∧ xs.length ≤ 140737488351232 := by
  have hv : ∃ a l c, v = .slice a l c := by
    rcases DataW.trod_slice ht h with ⟨h0, _⟩ | ⟨a, len, cap, elems, rest, n, _, h0, _⟩
    · simp only [List.cons.injEq, and_true] at h0; exact ⟨_, _, _, h0⟩
    · simp only [List.cons.injEq, and_true] at h0; exact ⟨_, _, _, h0⟩
  obtain ⟨a, l, c, rfl⟩ := hv
  rcases ChangeShapes.open_ints ht he hc h with ⟨hcs, hx⟩ | ⟨a, len', cap', zs, hcs, _, hl, hm, hz, hx, hcell, hwz⟩
  · simp at hcs
    obtain ⟨rfl, rfl, rfl⟩ := hcs
    exact ⟨[], .inl ⟨rfl, rfl⟩, (fun u hu => by cases hu), Nat.zero_le _⟩
  · simp at hcs
    obtain ⟨rfl, rfl, rfl⟩ := hcs
    subst hx
    simp only [if_true] at hz
    have hw := hsz (c * P.bytesOf e) (by
      simp only [DataW.weights, ht, List.mem_cons]
      left
      simp only [ChangeShapes.lits, List.length_map, List.length_take, List.length_drop, hz]
      congr 1
      omega)
    rw [h1, Nat.mul_one] at hw
    have hr : reachBytes = 140737488351232 := rfl
    refine ⟨(zs.take l).map (.int .u8), .inr ⟨a, c, ?_, ?_, fun j u hu => ?_⟩, fun u hu => ?_, ?_⟩
    · simp; omega
    · simp; omega
    · rw [List.getElem?_map] at hu
      obtain ⟨z, hz2, rfl⟩ := Option.map_eq_some_iff.1 hu
      have hj : j < zs.length := by
        have := (List.getElem?_eq_some_iff.1 hz2).1
        simp at this
        omega
      rw [hcell j hj]
      rw [List.getElem?_take] at hz2
      split at hz2
      · simp [List.getD, hz2]
      · cases hz2
    · obtain ⟨z, _, rfl⟩ := List.mem_map.1 hu
      exact ⟨z, rfl⟩
    · simp; omega
theorem int_cell {t : TypeId} {k : IntKind} (ht : P.underlying t = some (.int k)) {n : Nat} {v : Value} {y : DataW H × List MemPlace} (h : DataW.trod enc P w 0 (fun _ => true) true n t [v] = some y) : ∃ m, v = .int k m ∧ (Lit.int k m).wf = true := by
  obtain ⟨m, h1, _, h2⟩ := DataW.trod_int ht h
  simp only [List.cons.injEq, and_true] at h1
  exact ⟨m, h1, h2⟩
theorem bool_cell {t : TypeId} (ht : P.underlying t = some .bool) {n : Nat} {v : Value} {y : DataW H × List MemPlace} (h : DataW.trod enc P w 0 (fun _ => true) true n t [v] = some y) : ∃ b, v = .bool b := by
  obtain ⟨b, h1, _⟩ := DataW.trod_bool ht h
  simp only [List.cons.injEq, and_true] at h1
  exact ⟨b, h1⟩
/-- A record's reading, field by field. -/
def Reads (enc : TypeId × Value → H) (P : Program) (w : World) (fs : Array Field) (cs : List Value) : Prop :=
  ∃ n, ∀ (j : Nat) (f : Field), fs[j]? = some f → ∃ y, DataW.trod enc P w 0 (fun _ => true) true n f.type ((cs.drop f.offset).take (P.cellsOf f.type)) = some y ∧ ∀ m ∈ y.1.weights P f.type, m ≤ reachBytes
theorem reads_of {e : TypeId} {fs : Array Field} (he : P.underlying e = some (.struct fs)) {n : Nat} {cs : List Value} {y : DataW H × List MemPlace} (h : DataW.trod enc P w 0 (fun _ => true) true n e cs = some y) (hsz : ∀ n ∈ y.1.weights P e, n ≤ reachBytes) : Reads enc P w fs cs := by
  obtain ⟨ys, n', rfl, hy, _, hyl, hf⟩ := DataW.trod_struct he h
  subst hy
  refine ⟨n', fun j f hj => ?_⟩
  have hjl : j < fs.size := (Array.getElem?_eq_some_iff.1 hj).1
  have hys : ys[j]? = some (ys[j]'(by omega)) := List.getElem?_eq_getElem (by omega)
  refine ⟨ys[j]'(by omega), (hf j f hj).trans hys, fun m hm => hsz m ?_⟩
  simp only [DataW.weights, he]
  exact DataW.weights_mem_each (j := j) (t := f.type) (by simp [hj]) (by rw [List.getElem?_map, hys]; rfl) m hm
theorem recs_in {t e : TypeId} {fs : Array Field} (ht : P.underlying t = some (.slice e)) (he : P.underlying e = some (.struct fs)) (hpos : 0 < P.cellsOf e) {base : Nat} {v : Value} {d : DataW H} {ps : List MemPlace}
    (hval : Value.okWide P w .any base t v) (h : DataW.Trod enc P w 0 (fun _ => true) true t v d ps) (hsz : ∀ n ∈ d.weights P t, n ≤ reachBytes) :
    v = .slice none 0 0 ∨ ∃ a len cap, v = .slice (some a) len cap ∧ len ≤ cap ∧ len * P.bytesOf e ≤ 140737488351232 ∧
      ∀ i, i < len → ∃ b o cs, a = ⟨b, o, none⟩ ∧ cs.length = P.cellsOf e ∧ (∀ q, q < P.cellsOf e → w.cell? ⟨b, o + (i * P.cellsOf e + q), none⟩ = cs[q]?) ∧ Reads enc P w fs cs := by
  obtain ⟨a1, len, cap, rfl⟩ := WideShapes.okWide_slice ht hval
  obtain ⟨fuel, hf⟩ := h
  have hr : reachBytes = 140737488351232 := rfl
  rcases open_slice ht hf with ⟨hcs, _⟩ | ⟨a, len', cap', m, n, D, Pl, hcs, _, hl, hm, hmm, hx, hi⟩
  · simp [Value.cells] at hcs
    obtain ⟨rfl, rfl, rfl⟩ := hcs
    exact .inl rfl
  · simp [Value.cells] at hcs
    obtain ⟨rfl, rfl, rfl⟩ := hcs
    simp only [Prod.mk.injEq] at hx
    obtain ⟨rfl, rfl⟩ := hx
    simp only [if_true] at hmm
    subst hmm
    have hw := hsz ((len + (m - len)) * P.bytesOf e) (by
      simp only [DataW.weights, ht, List.mem_cons]
      left
      simp)
    have hlb : len * P.bytesOf e ≤ 140737488351232 := Nat.le_trans (Nat.mul_le_mul_right _ (by omega)) (hr ▸ hw)
    refine .inr ⟨a, len, m, rfl, hl, hlb, fun i hil => ?_⟩
    obtain ⟨cs', hc, ht'⟩ := hi i (by omega)
    obtain ⟨_, hcl, hat⟩ := World.cells?_some hc
    obtain ⟨cs0, hc0, _⟩ := hi 0 (by omega)
    obtain ⟨_, hcl0, hat0⟩ := World.cells?_some hc0
    have h00 := hat0 0 hpos
    rw [List.getElem?_eq_getElem (by omega)] at h00
    simp only [Nat.zero_mul, Addr.add, if_true] at h00
    obtain ⟨b, o, sp⟩ := a
    cases sp with
    | some s =>
      unfold World.cell? at h00
      simp only [Option.isSome_some, if_true] at h00
      split at h00 <;> cases h00
    | none =>
    refine ⟨b, o, cs', rfl, hcl, fun q hq => by rw [← hat q hq, Go.Deep.add_add, Addr.add_lit], reads_of he ht' (fun k hk => hsz k ?_)⟩
    simp only [DataW.weights, ht, List.mem_cons, List.mem_append]
    right; left
    exact weights_all (List.mem_map.2 ⟨i, List.mem_range.2 hil, rfl⟩) k hk
end
end Go.Proofs.Ytpoinhfkgnkedaa.M
