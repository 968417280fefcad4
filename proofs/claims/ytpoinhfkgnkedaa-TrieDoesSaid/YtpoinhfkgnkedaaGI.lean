/-
  Merged: TfS, TfO, TfB, TfV, TfL.
-/
import Derived.Test.YtpoinhfkgnkedaaTrRef
import Derived.Test.YtpoinhfkgnkedaaRowP
import Derived.Test.YtpoinhfkgnkedaaTrLoP
import Derived.Laws.BytesArg
import Derived.BigQuiet
import Derived.Test.YtpoinhfkgnkedaaCopyS
import Derived.Deep.RegionLaw
import Derived.OwnWalk
import Derived.BigRegion
import Derived.Test.YtpoinhfkgnkedaaTrVal
namespace Go.Proofs.Ytpoinhfkgnkedaa.M
open Go.RowKit
set_option linter.unusedVariables false
set_option linter.unusedSectionVars false
set_option linter.unusedSimpArgs false
theorem str_inj {a b : List Int} (ha : ByteL a) (hb : ByteL b) (h : strOfNums a = strOfNums b) : a = b := by
  have h1 : (a.map fun n => n.toNat.toUInt8).toArray = (b.map fun n => n.toNat.toUInt8).toArray := congrArg ByteArray.data h
  have h2 : a.map (fun n => n.toNat.toUInt8) = b.map (fun n => n.toNat.toUInt8) := by simpa using h1
  clear h h1
  induction a generalizing b with
  | nil => cases b with
    | nil => rfl
    | cons y b => simp at h2
  | cons x a ih => cases b with
    | nil => simp at h2
    | cons y b =>
      simp only [List.map_cons, List.cons.injEq] at h2
      have hx := ha x (by simp)
      have hy := hb y (by simp)
      have h3 : x.toNat.toUInt8.toNat = y.toNat.toUInt8.toNat := by rw [h2.1]
      simp only [UInt8.toNat_ofNat', Nat.toUInt8_eq] at h3
      have h4 : x = y := by omega
      rw [h4, ih (fun z hz => ha z (List.mem_cons_of_mem _ hz)) (fun z hz => hb z (List.mem_cons_of_mem _ hz)) h2.2]
/-- Keys' signs and places. -/
abbrev LSt := List (List Int × Nat)
def enc (A : LSt) : List (ByteArray × Nat) := A.map fun x => (strOfNums x.1, x.2)
def findK (A : LSt) (ks : List Int) : Option Nat := A.findIdx? fun x => decide (x.1 = ks)
def placeA (A : LSt) (k : Nat) : Nat := ((A[k]?).map (·.2)).getD 0
def usedA (A : LSt) (p : Nat) : Bool := A.any fun x => x.2 == p
theorem enc_len (A : LSt) : (enc A).length = A.length := by simp [enc]
/-- What turns is meant by ok. -/
def Turns (ok : Nat → Prop) (w w' : World) : Prop := ∃ L, (∀ x ∈ L, ok x) ∧ But L w w'
theorem Turns.of {ok : Nat → Prop} {w w' : World} {L : List Nat} (h : But L w w') (hL : ∀ x ∈ L, ok x) : Turns ok w w' := ⟨L, hL, h⟩
theorem Turns.refl (ok : Nat → Prop) (w : World) : Turns ok w w := ⟨[], by simp, But.refl _ _⟩
structure RoomR (w : World) (ok : Nat → Prop) (V N : Nat) (b : Option Addr) (d : Nat) (vals : List Value) (rows : List (List Int)) : Prop where
  own : OwnQ w 26 (.slice b vals.length d) vals
  okb : ∀ x, (Value.slice b vals.length d).ownBlock = some x → ok x
  len : vals.length = N ∧ rows.length = N
  each : ∀ (i : Nat) (v : Value) (r : List Int), vals[i]? = some v → rows[i]? = some r → OwnQ w 5 v (u8s r) ∧ (∀ x, v.ownBlock = some x → ok x) ∧ r.length = V ∧ ByteL r
  apart : ∀ (i j : Nat) (u v : Value) (x : Nat), vals[i]? = some u → vals[j]? = some v → u.ownBlock = some x → v.ownBlock = some x → i = j
/-- The reference's trie as it lies; all its blocks are among the right ones. -/
structure RefL (w : World) (ok : Nat → Prop) (R K V N : Nat) (A : LSt) (rows : List (List Int)) : Prop where
  okR : ok R
  lies : ∃ (a : Option Addr) (c : Nat) (b : Option Addr) (d : Nat) (vals : List Value), w.heap[R]? = some (.cells #[.int .u8 4, .int .i64 K, .int .i64 V, .int .i64 N, .slice a A.length c, .slice b vals.length d] 87) ∧ OwnP w 93 (.slice a A.length c) (enc A) ∧ (∀ x, (Value.slice a A.length c).ownBlock = some x → ok x) ∧ RoomR w ok V N b d vals rows
  keys : ∀ x ∈ A, ByteL x.1 ∧ x.2 < N
  len : A.length ≤ N
  bounds : (5 ≤ K ∧ K ≤ 36) ∧ (1 ≤ V ∧ V ≤ 1024) ∧ (1 ≤ N ∧ N ≤ 1024)
section
variable {w w' : World} {ok ok' : Nat → Prop} {R K V N : Nat} {A : LSt} {rows : List (List Int)}
theorem RoomR.keep {b : Option Addr} {d : Nat} {vals : List Value} {L : List Nat} (h : RoomR w ok V N b d vals rows) (hb : But L w w') (hL : ∀ x ∈ L, ¬ ok x) : RoomR w' ok V N b d vals rows :=
  ⟨h.own.but hb (fun x hx hm => hL x hm (h.okb x hx)), h.okb, h.len, fun i v r hv hr => ⟨(h.each i v r hv hr).1.but hb (fun x hx hm => hL x hm ((h.each i v r hv hr).2.1 x hx)), (h.each i v r hv hr).2⟩, h.apart⟩
theorem RoomR.also {b : Option Addr} {d : Nat} {vals : List Value} (h : RoomR w ok V N b d vals rows) (hk : ∀ x, x < w.heap.size → ok x → ok' x) : RoomR w ok' V N b d vals rows :=
  ⟨h.own, fun x hx => hk x (h.own.lt hx) (h.okb x hx), h.len, fun i v r hv hr => ⟨(h.each i v r hv hr).1, fun x hx => hk x ((h.each i v r hv hr).1.lt hx) ((h.each i v r hv hr).2.1 x hx), (h.each i v r hv hr).2.2⟩, h.apart⟩
theorem RefL.keep {L : List Nat} (h : RefL w ok R K V N A rows) (hb : But L w w') (hL : ∀ x ∈ L, ¬ ok x) : RefL w' ok R K V N A rows := by
  obtain ⟨h0, ⟨a, c, b, d, vals, h1, h2, h3, h4⟩, h5, h6, h7⟩ := h
  exact ⟨h0, ⟨a, c, b, d, vals, hb.heap h1 (fun hm => hL _ hm h0), h2.but hb (fun x hx hm => hL x hm (h3 x hx)), h3, h4.keep hb hL⟩, h5, h6, h7⟩
theorem RefL.also (h : RefL w ok R K V N A rows) (hk : ∀ x, x < w.heap.size → ok x → ok' x) : RefL w ok' R K V N A rows := by
  obtain ⟨h0, ⟨a, c, b, d, vals, h1, h2, h3, h4⟩, h5, h6, h7⟩ := h
  exact ⟨hk _ (lt_of h1) h0, ⟨a, c, b, d, vals, h1, h2, fun x hx => hk x (h2.lt hx) (h3 x hx), h4.also hk⟩, h5, h6, h7⟩
end
theorem str_eqb {a b : List Int} (h : a = b) : ((strOfNums a).toList == (strOfNums b).toList) = true := by rw [h]; exact beq_self_eq_true _
theorem str_neb {a b : List Int} (ha : ByteL a) (hb : ByteL b) (h : a ≠ b) : ((strOfNums a).toList == (strOfNums b).toList) = false := by
  rw [beq_eq_false_iff_ne]
  intro e
  rw [ByteArray.toList_eq, ByteArray.toList_eq] at e
  refine h (str_inj ha hb ?_)
  have e2 : (strOfNums a).data = (strOfNums b).data := Array.toList_inj.1 e
  exact ByteArray.ext e2
def findI (A : LSt) (ks : List Int) : Int := match findK A ks with | none => -1 | some k => k
/-- None of the first ones. -/
def NoneYet (A : LSt) (ks : List Int) (k : Nat) : Prop := ∀ (i : Nat) (x : List Int × Nat), i < k → A[i]? = some x → x.1 ≠ ks
theorem findI_here {A : LSt} {ks : List Int} {k : Nat} {x : List Int × Nat} (h : NoneYet A ks k) (hx : A[k]? = some x) (he : x.1 = ks) : findI A ks = k := by
  have h1 : findK A ks = some k := by
    unfold findK
    obtain ⟨hk, e⟩ := List.getElem?_eq_some_iff.1 hx
    refine List.findIdx?_eq_some_iff_getElem.2 ⟨hk, by rw [e]; simpa using he, fun j hj => ?_⟩
    have := h j A[j] hj (List.getElem?_eq_getElem _)
    simpa using this
  unfold findI
  rw [h1]
theorem findI_no {A : LSt} {ks : List Int} (h : NoneYet A ks A.length) : findI A ks = -1 := by
  have h1 : findK A ks = none := List.findIdx?_eq_none_iff.2 fun x hx => by
    obtain ⟨i, hi⟩ := List.getElem?_of_mem hx
    have := h i x (List.getElem?_eq_some_iff.1 hi).1 hi
    simpa using this
  unfold findI
  rw [h1]
theorem NoneYet.next {A : LSt} {ks : List Int} {k : Nat} {x : List Int × Nat} (h : NoneYet A ks k) (hx : A[k]? = some x) (hne : x.1 ≠ ks) : NoneYet A ks (k + 1) := fun i y hi hy => by
  by_cases e : i = k
  · subst e
    rw [hx] at hy
    cases hy
    exact hne
  · exact h i y (by omega) hy
theorem enc_get {A : LSt} {k : Nat} {x : List Int × Nat} (h : A[k]? = some x) : (enc A)[k]? = some (strOfNums x.1, x.2) := by
  unfold enc
  rw [List.getElem?_map, h]
  rfl
theorem find_nums {k n : Nat} (h : k < n) (hn : n ≤ 1024) : (0 : Int) ≤ k ∧ (k : Int) < n ∧ wrap64 ((k : Int) + 1) = (k : Int) + 1 ∧ IntKind.i64.wrap ((k : Int) + 1) = (k : Int) + 1 := by
  refine ⟨by omega, by omega, ?_, ?_⟩
  · rw [wrap64]; omega
  · rw [IntKind.wrap_i64]; omega
theorem find_meas {j n : Nat} (h : j < n) : n - (intOf (.int .i64 ((j : Int) + 1))).toNat < n - (intOf (.int .i64 (j : Int))).toNat := by
  simp only [intOf]
  omega
theorem num_eqR {k n : Nat} (h : k ≤ n) (h2 : ¬ k < n) : k = n := by omega
set_option maxRecDepth 100000 in
set_option maxHeartbeats 4000000 in
theorem refFind {w : World} {R c : Nat} {a : Option Addr} {A : LSt} {ks : List Int} (h4 : w.cell? ⟨R, 4, none⟩ = some (.slice a A.length c)) (hP : OwnP w 93 (.slice a A.length c) (enc A)) (hA : ∀ x ∈ A, ByteL x.1) (hn : A.length ≤ 1024) (hk : ByteL ks) :
    Calls Try.prog 52 #[.pointer (some ⟨R, 0, none⟩), .string (strOfNums ks)] w fun e w' => e = .returned (.int .i64 (findI A ks)) ∧ But [] w w' := by
  have HP := Lib.hid hP
  have H4 := Lib.hid h4
  have HA := Lib.hid hA
  have HK := Lib.hid hk
  clear hP hA hk h4
  go_enter Try.func52, Try.ntmps52
  go_wp2_with fail
  go_loopw [5] (fun i wr => ∃ k : Nat, k ≤ A.length ∧ i = .int .i64 k ∧ NoneYet A ks k ∧ But [] w wr) (fun i _ => A.length - (intOf i).toNat)
  case atStart => exact ⟨0, Nat.zero_le _, rfl, fun i x hi => absurd hi (Nat.not_lt_zero _), But.refl _ _⟩
  case round =>
    obtain ⟨k, hkl, rfl, hno, hb⟩ := hrel
    have HB := Lib.hid hb
    have HNO := Lib.hid hno
    have d4 : wr.cell? ⟨R, 4, none⟩ = some (.slice a A.length c) := cell_but hb H4.out (by simp)
    clear hb hno
    by_cases hlt : k < A.length
    · obtain ⟨hk0, hk1, hw1, hw2⟩ := find_nums hlt hn
      obtain ⟨x, hx⟩ : ∃ x, A[k]? = some x := ⟨_, List.getElem?_eq_getElem hlt⟩
      obtain ⟨g, rfl⟩ := HP.out.addr (by omega)
      have d1 := ((HP.out.but HB.out (by simp)).at2 (enc_get hx)).1
      have HX := Lib.hid hx
      have HLT := Lib.hid hlt
      clear hx hlt
      by_cases he : x.1 = ks
      · have hq := str_eqb he
        have HE := Lib.hid he
        clear he
        go_wp2_with fail
        go_ret
        exact ⟨congrArg (fun i => Ending.returned (.int .i64 i)) (findI_here HNO.out HX.out HE.out).symm, HB.out⟩
      · have hq := str_neb (HA.out x (List.mem_of_getElem? HX.out)) HK.out he
        have HE := Lib.hid he
        clear he
        go_wp2_with fail
        go_roundw
        case rel => exact ⟨k + 1, HLT.out, by go_num, HNO.out.next HX.out HE.out, HB.out⟩
        case measure => first | exact find_meas HLT.out | exact (by rw [hw1]; exact find_meas HLT.out)
    · obtain rfl : k = A.length := num_eqR hkl hlt
      clear hlt hkl
      go_wp2_with fail
      go_ret
      exact ⟨congrArg (fun i => Ending.returned (.int .i64 i)) (findI_no HNO.out).symm, HB.out⟩
end Go.Proofs.Ytpoinhfkgnkedaa.M
namespace Go.Proofs.Ytpoinhfkgnkedaa.M
open Go.RowKit
set_option linter.unusedVariables false
set_option linter.unusedSectionVars false
set_option linter.unusedSimpArgs false
def freeP (A : LSt) (N : Nat) : Int := match (List.range N).find? (fun p => !usedA A p) with | none => -1 | some p => p
def UsedTo (A : LSt) (p : Nat) : Prop := ∀ j, j < p → usedA A j = true
theorem freeR_here {A : LSt} {N p : Nat} (hp : p < N) (h : UsedTo A p) (hu : usedA A p = false) : freeP A N = p := by
  have : (List.range N).find? (fun p => !usedA A p) = some p := by
    rw [List.find?_range_eq_some]
    exact ⟨by rw [hu]; rfl, List.mem_range.2 hp, fun j hj => by rw [h j hj]; rfl⟩
  unfold freeP
  rw [this]
theorem freeR_no {A : LSt} {N : Nat} (h : UsedTo A N) : freeP A N = -1 := by
  have : (List.range N).find? (fun p => !usedA A p) = none := by
    rw [List.find?_eq_none]
    intro p hp
    rw [h p (List.mem_range.1 hp)]
    simp
  unfold freeP
  rw [this]
theorem used_step {A : LSt} {i p : Nat} {x : List Int × Nat} (hx : A[i]? = some x) : usedA (A.take (i + 1)) p = (usedA (A.take i) p || x.2 == p) := by
  unfold usedA
  rw [List.take_add_one, hx, List.any_append]
  simp
theorem used_all (A : LSt) (p : Nat) : usedA (A.take A.length) p = usedA A p := by rw [List.take_length]
theorem UsedTo.next {A : LSt} {p : Nat} (h : UsedTo A p) (hu : usedA A p = true) : UsedTo A (p + 1) := fun j hj => by
  by_cases e : j = p
  · rw [e]; exact hu
  · exact h j (by omega)
theorem cast_eqb {a b : Nat} (h : a = b) : ((a : Int) == (b : Int)) = true := by rw [h]; exact beq_self_eq_true _
theorem cast_neb {a b : Nat} (h : a ≠ b) : ((a : Int) == (b : Int)) = false := by
  rw [beq_eq_false_iff_ne]; omega
theorem used_or1 {u : Bool} {x p : Nat} (h : u = true) : (u || x == p) = true := by rw [h]; rfl
theorem used_or2 {u : Bool} {x p : Nat} (h : x = p) : (u || x == p) = true := by rw [h]; simp
theorem used_or3 {u : Bool} {x p : Nat} (h : u = false) (h2 : x ≠ p) : (u || x == p) = false := by rw [h]; simpa using h2
/-- A list is stored. -/
theorem RefL.store {w w7 : World} {ok : Nat → Prop} {R K V N : Nat} {A A' : LSt} {rows : List (List Int)} (h : RefL w ok R K V N A rows) {L : List Nat} (hb : But L w w7) (hL : ∀ x ∈ L, ∃ cur, w.heap[x]? = some (.cells cur 93)) (hLok : ∀ x ∈ L, ok x) {a3 : Option Addr} {c3 : Nat} (hq : OwnP w7 93 (.slice a3 A'.length c3) (enc A')) (hlow : ∀ b, (Value.slice a3 A'.length c3).ownBlock = some b → ok b) (hA' : ∀ x ∈ A', ByteL x.1 ∧ x.2 < N) (hlen : A'.length ≤ N) :
    w7.frozen? ⟨R, 4, none⟩ = false ∧ (∃ u, w7.cell? ⟨R, 4, none⟩ = some u) ∧ RefL (w7.setCell ⟨R, 4, none⟩ (.slice a3 A'.length c3)) ok R K V N A' rows ∧ Turns ok w (w7.setCell ⟨R, 4, none⟩ (.slice a3 A'.length c3)) := by
  obtain ⟨h0, ⟨a, c, b, d, vals, h1, h2, h3, h4⟩, h5, h6, h7⟩ := h
  have off : ∀ {e : TypeId} {C : Array Value} {k : Nat}, w.heap[k]? = some (.cells C e) → e ≠ 93 → k ∉ L := fun hk he hm => by
    obtain ⟨cur, hc⟩ := hL _ hm
    rw [hk] at hc
    simp only [Option.some.injEq, Obj.cells.injEq] at hc
    exact he hc.2.1
  have hR7 := hb.heap h1 (off h1 (by decide))
  have hs : But [R] w7 (w7.setCell ⟨R, 4, none⟩ (.slice a3 A'.length c3)) := (But.refl _ _).setCell (.inl (by simp)) _
  have noR : ∀ {e : TypeId} {v : Value} {xs : List Value}, OwnQ w7 e v xs → e ≠ 87 → ∀ b, v.ownBlock = some b → b ∉ [R] := fun hq he b hb hm => by
    simp only [List.mem_singleton] at hm
    subst hm
    obtain ⟨cur, hg⟩ := hq.tag _ hb
    rw [hR7] at hg
    simp only [Option.some.injEq, Obj.cells.injEq] at hg
    exact he hg.2.1.symm
  have keepQ : ∀ {e : TypeId} {v : Value} {xs : List Value}, OwnQ w e v xs → e ≠ 87 → e ≠ 93 → OwnQ (w7.setCell ⟨R, 4, none⟩ (.slice a3 A'.length c3)) e v xs := fun hv he he2 => by
    have h8 := hv.but hb (fun k hk => by
      obtain ⟨cur, hg⟩ := hv.tag k hk
      exact off hg he2)
    exact h8.but hs (noR h8 he)
  refine ⟨by unfold World.frozen?; rw [hR7]; simp, ⟨_, cl_of hR7 4⟩, ⟨h0, ⟨a3, c3, b, d, vals, ?_, hq.but hs (fun x hx hm => ?_), hlow, ?_⟩, hA', hlen, h7⟩, R :: L, fun x hx => ?_, (hb.mono (fun x hx => List.mem_cons_of_mem _ hx)).trans hs (fun x hx => .inl (by simp only [List.mem_singleton] at hx; subst hx; simp))⟩
  · simp [World.setCell, Array.getElem?_modify, hR7]
  · simp only [List.mem_singleton] at hm
    subst hm
    obtain ⟨cur, hg⟩ := hq.tag hx
    rw [hR7] at hg
    simp only [Option.some.injEq, Obj.cells.injEq] at hg
    exact absurd hg.2.1 (by decide)
  · exact ⟨keepQ h4.own (by decide) (by decide), h4.okb, h4.len, fun i v r hv hr => ⟨keepQ (h4.each i v r hv hr).1 (by decide) (by decide), (h4.each i v r hv hr).2⟩, h4.apart⟩
  · rcases List.mem_cons.1 hx with rfl | hx
    · exact h0
    · exact hLok x hx
theorem enc_cut {A : LSt} {i : Nat} : (enc A).take i ++ (enc A).drop (i + 1) = enc (A.eraseIdx i) := by
  rw [← List.eraseIdx_eq_take_drop_succ]
  unfold enc
  rw [ChangeMaps.map_eraseIdx]
theorem RefL.shrunk {w w5 w7 : World} {ok : Nat → Prop} {R K V N : Nat} {A : LSt} {rows : List (List Int)} (h : RefL w ok R K V N A rows) (hok : ∀ b, w.heap.size ≤ b → ok b) {i : Nat} (hi : i < A.length) {L1 L2 : List Rec} (e1 : L1 = (enc A).take i) (e2 : L2 = (enc A).drop (i + 1)) {a1 : Option Addr} {c1 : Nat} {v' : Value}
    (q5 : OwnP w5 93 (.slice a1 L1.length c1) L1) (n5 : ∀ b, (Value.slice a1 L1.length c1).ownBlock = some b → w.heap.size ≤ b) (b5 : But [] w w5) (hap : AppP w5 w7 93 (.slice a1 L1.length c1) v' L1 L2) :
    ∃ a3 c3, v' = .slice a3 (L1.length + L2.length) c3 ∧ w7.frozen? ⟨R, 4, none⟩ = false ∧ (∃ u, w7.cell? ⟨R, 4, none⟩ = some u) ∧ RefL (w7.setCell ⟨R, 4, none⟩ (.slice a3 (L1.length + L2.length) c3)) ok R K V N (A.eraseIdx i) rows ∧ But [R] w (w7.setCell ⟨R, 4, none⟩ (.slice a3 (L1.length + L2.length) c3)) := by
  obtain ⟨hq, hc⟩ := hap
  obtain ⟨a3, c3, e⟩ := hq.form
  have hl : (L1 ++ L2).length = L1.length + L2.length := List.length_append
  have he : L1 ++ L2 = enc (A.eraseIdx i) := by rw [e1, e2]; exact enc_cut
  have hl2 : (A.eraseIdx i).length = L1.length + L2.length := by rw [← hl, he, enc_len]
  rw [hl] at e
  subst e
  have bW7 : But [] w w7 := by
    rcases hc with ⟨_, _, _, _, hb⟩ | ⟨_, hb⟩
    · exact b5.trans hb (fun x hx => .inr (n5 x (by simpa using hx)))
    · exact b5.trans hb (by simp)
  have hlow : ∀ b, (Value.slice a3 (L1.length + L2.length) c3).ownBlock = some b → ok b := fun b hb => by
    rcases hc with ⟨a0, cap, e1, e2, _⟩ | ⟨hn, _⟩
    · refine hok b (n5 b ?_)
      rw [e1]
      rw [e2] at hb
      exact (own_addr _ _ _ _ _).trans hb
    · rw [hn] at hb
      cases hb
      exact hok _ b5.size
  rw [he] at hq
  have h9 := h.store (A' := A.eraseIdx i) bW7 (by simp) (by simp) (a3 := a3) (c3 := c3) (by rw [hl2]; exact hq) (by rw [hl2]; exact hlow) (fun x hx => h.keys x (List.mem_of_mem_eraseIdx hx)) (by have := List.length_eraseIdx_le A i; have := h.len; omega)
  rw [hl2] at h9
  exact ⟨a3, c3, rfl, h9.1, h9.2.1, h9.2.2.1, (bW7.mono (by simp)).trans ((But.refl _ _).setCell (.inl (by simp)) _) (fun x hx => .inl hx)⟩
theorem turns_trans {ok : Nat → Prop} {a b c : World} (h : Turns ok a b) (k : Turns ok b c) : Turns ok a c := by
  obtain ⟨L, hL, hb⟩ := h
  obtain ⟨M, hM, hc⟩ := k
  exact ⟨L ++ M, fun x hx => by rcases List.mem_append.1 hx with h | h; exact hL x h; exact hM x h, (hb.mono (fun x hx => List.mem_append_left _ hx)).trans (hc.mono (fun x hx => List.mem_append_right _ hx)) (fun x hx => .inl hx)⟩
theorem RefL.slot {w : World} {ok : Nat → Prop} {R K V N : Nat} {A : LSt} {rows : List (List Int)} (h : RefL w ok R K V N A rows) : ∃ a c, w.cell? ⟨R, 4, none⟩ = some (.slice a A.length c) ∧ OwnP w 93 (.slice a A.length c) (enc A) ∧ w.cell? ⟨R, 1, none⟩ = some (.int .i64 K) ∧ w.cell? ⟨R, 2, none⟩ = some (.int .i64 V) ∧ w.cell? ⟨R, 3, none⟩ = some (.int .i64 N) ∧ R < w.heap.size := by
  obtain ⟨h0, ⟨a, c, b, d, vals, h1, h2, h3, h4⟩, h5, h6, h7⟩ := h
  exact ⟨a, c, cl_of h1 4, h2, cl_of h1 1, cl_of h1 2, cl_of h1 3, lt_of h1⟩
theorem RefL.grown {w wz w7 : World} {ok : Nat → Prop} {R K V N : Nat} {A : LSt} {rows : List (List Int)} (h : RefL w ok R K V N A rows) (hok : ∀ b, w.heap.size ≤ b → ok b) (hz : But [] w wz) {a : Option Addr} {c : Nat} (hl : w.cell? ⟨R, 4, none⟩ = some (.slice a A.length c)) {x : List Int × Nat} (hx : ByteL x.1 ∧ x.2 < N) (hlen : A.length < N) {v' : Value} (hap : AppP wz w7 93 (.slice a A.length c) v' (enc A) [(strOfNums x.1, x.2)]) :
    ∃ a3 c3, v' = .slice a3 (A.length + 1) c3 ∧ w7.frozen? ⟨R, 4, none⟩ = false ∧ (∃ u, w7.cell? ⟨R, 4, none⟩ = some u) ∧ RefL (w7.setCell ⟨R, 4, none⟩ (.slice a3 (A.length + 1) c3)) ok R K V N (A ++ [x]) rows ∧ Turns ok w (w7.setCell ⟨R, 4, none⟩ (.slice a3 (A.length + 1) c3)) := by
  have h' := h
  obtain ⟨h0, ⟨a', c', b, d, vals, h1, h2, h3, h4⟩, h5, h6, h7⟩ := h'
  have e0 : (Value.slice a' A.length c') = .slice a A.length c := Option.some.inj ((cl_of h1 4).symm.trans hl)
  rw [e0] at h2 h3
  obtain ⟨hq, hc⟩ := hap
  obtain ⟨a3, c3, e⟩ := hq.form
  have he : enc A ++ [(strOfNums x.1, x.2)] = enc (A ++ [x]) := by unfold enc; rw [List.map_append]; rfl
  have hl2 : (A ++ [x]).length = A.length + 1 := by rw [List.length_append]; rfl
  rw [he, enc_len, hl2] at e
  subst e
  rw [he] at hq
  have hk : ∃ L, But L w w7 ∧ (∀ y ∈ L, (Value.slice a A.length c).ownBlock = some y) ∧ ∀ b, (Value.slice a3 (A.length + 1) c3).ownBlock = some b → ok b := by
    rcases hc with ⟨a0, cap, q1, q2, hb⟩ | ⟨hn, hb⟩
    · refine ⟨_, (hz.mono (by simp)).trans hb (fun y hy => .inl hy), fun y hy => by simpa using hy, fun b hb' => h3 b ?_⟩
      rw [q1]
      rw [q2] at hb'
      exact (own_addr _ _ _ _ _).trans hb'
    · refine ⟨[], hz.trans hb (by simp), (by simp), fun b hb' => ?_⟩
      rw [hn] at hb'
      cases hb'
      exact hok _ hz.size
  obtain ⟨L, hb, hL, hlow⟩ := hk
  have h9 := h.store (A' := A ++ [x]) hb (fun y hy => h2.tag (hL y hy)) (fun y hy => h3 y (hL y hy)) (a3 := a3) (c3 := c3) (by rw [hl2]; exact hq) (by rw [hl2]; exact hlow) (fun y hy => by
    rcases List.mem_append.1 hy with hy | hy
    · exact h5 y hy
    · have e : y = x := (by simpa using hy)
      rw [e]; exact hx) (by rw [hl2]; omega)
  rw [hl2] at h9
  exact ⟨a3, c3, rfl, h9⟩
theorem src_oneP {i0 : TypeInfo} (hz1 : i0.size = 2) (w5 : World) (s : ByteArray) (p : Nat) : Src Try.prog i0.size 85 (.slice (some ⟨w5.heap.size, 0, none⟩) 1 1) [((s, p) : Rec)].length (flatP [(s, p)]) (w5.alloc (.cells #[.string s, .int .i64 p] 93)).drew := by
  rw [hz1]
  refine Src.ofSlice _ Try.underlying85 ⟨w5.heap.size, 0, none⟩ 1 1 _ (by rfl) (fun j u hj => ?_) (flatP_one _)
  rw [add_at, Nat.zero_add]
  show (w5.alloc (.cells #[.string s, .int .i64 p] 93)).cell? _ = _
  rw [cl_of (al_at _ _)]
  match j, hj with
  | 0, hj => exact hj
  | 1, hj => exact hj
  | j + 2, hj => simp [flatP, rcells] at hj
theorem app_fitsP {n : Nat} (h : n ≤ 1024) : n + 1 ≤ maxLen ∧ (n + 1) * 24 ≤ 140737488355328 := by
  unfold maxLen
  omega
structure RowAt (w : World) (ok : Nat → Prop) (V N : Nat) (b : Option Addr) (d : Nat) (vals : List Value) (rows : List (List Int)) (p : Nat) (r : List Int) (g o c : Nat) (cur : List Value) : Prop where
  at' : vals[p]? = some (.slice (some ⟨g, o, none⟩) V c)
  cells : w.heap[g]? = some (.cells cur.toArray 5 (0, 0))
  fit : o + c ≤ cur.length ∧ V ≤ c ∧ c ≤ maxLen
  okg : ok g
  sees : Sees w (.slice (some ⟨g, o, none⟩) V c) (u8s r)
  turn : ∀ (w' : World) (off : Nat) (bs : List Int), off + bs.length ≤ V → ByteL bs → w'.heap[g]? = some (.cells (splice cur (o + off) (u8s bs)).toArray 5 (0, 0)) → But [g] w w' → RoomR w' ok V N b d vals (rows.set p (setAt r off bs))
theorem splice_own {w' : World} {g o c : Nat} {cur : List Value} {r bs : List Int} {off : Nat} (hg : w'.heap[g]? = some (.cells (splice cur (o + off) (u8s bs)).toArray 5 (0, 0))) (hfit : o + c ≤ cur.length) (hrc : r.length ≤ c) (hm : c ≤ maxLen) (ho : off + bs.length ≤ r.length) (hx : ∀ j u, (u8s r)[j]? = some u → cur[o + j]? = some u) : OwnQ w' 5 (.slice (some ⟨g, o, none⟩) r.length c) (u8s (setAt r off bs)) := by
  have hl : (splice cur (o + off) (u8s bs)).length = cur.length := length_splice cur (o + off) (u8s bs) (by rw [u8s_len]; omega)
  refine .inr ⟨g, o, c, (splice cur (o + off) (u8s bs)).toArray, by rw [u8s_len, setAt_len ho], hg, by rw [u8s_len, setAt_len ho]; exact hrc, hm, by rw [List.size_toArray, hl]; exact hfit, fun j u hj => ?_⟩
  rw [← setAt_u8s] at hj
  rw [List.getElem?_toArray]
  have hjl : j < r.length := by
    have := (List.getElem?_eq_some_iff.1 hj).1
    rw [length_splice (u8s r) off (u8s bs) (by rw [u8s_len, u8s_len]; exact ho), u8s_len] at this
    exact this
  have hr : ∃ z, (u8s r)[j]? = some z := ⟨_, List.getElem?_eq_getElem (by rw [u8s_len]; exact hjl)⟩
  obtain ⟨z, hz⟩ := hr
  unfold splice at hj ⊢
  have l1 : ((u8s r).take off).length = off := by rw [List.length_take, u8s_len]; omega
  have l2 : (cur.take (o + off)).length = o + off := by rw [List.length_take]; omega
  by_cases h1 : j < off
  · rw [List.getElem?_append_left (by omega), List.getElem?_take, if_pos h1] at hj
    rw [List.getElem?_append_left (by omega), List.getElem?_take, if_pos (by omega)]
    exact hx j u hj
  · rw [List.getElem?_append_right (by omega), l1] at hj
    rw [List.getElem?_append_right (by omega), l2, show o + j - (o + off) = j - off by omega]
    by_cases h2 : j - off < (u8s bs).length
    · rw [List.getElem?_append_left h2] at hj ⊢
      exact hj
    · rw [List.getElem?_append_right (by omega), List.getElem?_drop] at hj ⊢
      rw [u8s_len] at hj h2 ⊢
      rw [show off + bs.length + (j - off - bs.length) = j by omega] at hj
      rw [show o + off + bs.length + (j - off - bs.length) = o + j by omega]
      exact hx j u hj
theorem RoomR.row {w : World} {ok : Nat → Prop} {V N : Nat} {b : Option Addr} {d : Nat} {vals : List Value} {rows : List (List Int)} (h : RoomR w ok V N b d vals rows) (hV : 1 ≤ V) {p : Nat} (hp : p < N) : ∃ r g o c cur, rows[p]? = some r ∧ r.length = V ∧ ByteL r ∧ RowAt w ok V N b d vals rows p r g o c cur := by
  obtain ⟨r, hr⟩ : ∃ r, rows[p]? = some r := ⟨_, List.getElem?_eq_getElem (by have := h.len.2; omega)⟩
  obtain ⟨v, hv⟩ : ∃ v, vals[p]? = some v := ⟨_, List.getElem?_eq_getElem (by have := h.len.1; omega)⟩
  obtain ⟨hq, hok, hrl, hrb⟩ := h.each p v r hv hr
  have hq0 := hq
  rcases hq with ⟨_, hn⟩ | ⟨g, o, c, cur, rfl, hg, hc, hm, hs, hx⟩
  · have : r.length = 0 := by rw [← u8s_len, hn]; rfl
    omega
  rw [u8s_len, hrl] at hv hc hok hq0
  refine ⟨r, g, o, c, cur.toList, hr, hrl, hrb, hv, by simpa using hg, ⟨by simpa using hs, hc, hm⟩, hok g rfl, hq0.sees, fun w' off bs ho hby hg' hb => ?_⟩
  have hne : ∀ {e : TypeId} {v : Value} {xs : List Value}, OwnQ w e v xs → e ≠ 5 → ∀ x, v.ownBlock = some x → x ∉ [g] := fun hw9 he x hx hm => by
    simp only [List.mem_singleton] at hm
    subst hm
    obtain ⟨cur', hg2⟩ := hw9.tag _ hx
    rw [hg] at hg2
    simp only [Option.some.injEq, Obj.cells.injEq] at hg2
    exact he hg2.2.1.symm
  refine ⟨h.own.but hb (hne h.own (by decide)), h.okb, ⟨h.len.1, by rw [List.length_set]; exact h.len.2⟩, fun i u s hu hs' => ?_, h.apart⟩
  by_cases hi : i = p
  · subst hi
    rw [hv] at hu
    cases hu
    rw [List.getElem?_set_self (by have := (List.getElem?_eq_some_iff.1 hr).1; exact this)] at hs'
    cases hs'
    have h9 := splice_own (r := r) hg' (by simpa using hs) (by omega) hm (by omega) (fun j u hj => by simpa using hx j u hj)
    rw [hrl] at h9
    exact ⟨h9, hok, by rw [setAt_len (by omega)]; exact hrl, setAt_byte hrb hby⟩
  · rw [List.getElem?_set_ne (Ne.symm hi)] at hs'
    obtain ⟨k1, k2, k3⟩ := h.each i u s hu hs'
    refine ⟨k1.but hb (fun x hx hm => hi (h.apart i p u _ x hu hv hx ?_)), k2, k3⟩
    have e : x = g := (by simpa using hm)
    rw [e]
    rfl
/-- A place of a reference's lru. -/
structure PlaceR (w : World) (ok : Nat → Prop) (R K V N : Nat) (A : LSt) (rows : List (List Int)) (p gv ov d : Nat) (r : List Int) (g o c : Nat) (cur : List Value) : Prop where
  cell5 : w.cell? ⟨R, 5, none⟩ = some (.slice (some ⟨gv, ov, none⟩) N d)
  cellp : w.cell? ⟨gv, ov + p, none⟩ = some (.slice (some ⟨g, o, none⟩) V c)
  row : rows[p]? = some r
  len : r.length = V
  bytes : ByteL r
  cells : w.heap[g]? = some (.cells cur.toArray 5 (0, 0))
  fit : o + c ≤ cur.length ∧ V ≤ c ∧ c ≤ maxLen
  okg : ok g
  sees : Sees w (.slice (some ⟨g, o, none⟩) V c) (u8s r)
  turn : ∀ (w' : World) (off : Nat) (bs : List Int), off + bs.length ≤ V → ByteL bs → w'.heap[g]? = some (.cells (splice cur (o + off) (u8s bs)).toArray 5 (0, 0)) → But [g] w w' → RefL w' ok R K V N A (rows.set p (setAt r off bs))
theorem RefL.place {w : World} {ok : Nat → Prop} {R K V N : Nat} {A : LSt} {rows : List (List Int)} (h : RefL w ok R K V N A rows) {p : Nat} (hp : p < N) : ∃ gv ov d r g o c cur, PlaceR w ok R K V N A rows p gv ov d r g o c cur := by
  obtain ⟨h0, ⟨a, la, b, d, vals, h1, h2, h3, h4⟩, h5, h6, h7⟩ := h
  obtain ⟨r, g, o, c, cur, k1, k2, k3, k4⟩ := h4.row h7.2.1.1 hp
  have hvl := h4.len.1
  have hown := h4.own
  obtain ⟨gv, ov, rfl⟩ := hown.addr (by omega)
  have hcell := hown.cellAt k4.at'
  have hne : R ≠ g := fun e => by
    have := k4.cells
    rw [← e, h1] at this
    simp only [Option.some.injEq, Obj.cells.injEq] at this
    exact absurd this.2.1 (by decide)
  refine ⟨gv, ov, d, r, g, o, c, cur, by rw [cl_of h1, ← hvl]; rfl, hcell, k1, k2, k3, k4.cells, k4.fit, k4.okg, k4.sees, fun w' off bs ho hby hg hb => ⟨h0, ⟨a, la, _, d, vals, hb.heap h1 (by simpa using hne), h2.but hb (fun x hx hm => ?_), h3, k4.turn w' off bs ho hby hg hb⟩, h5, h6, h7⟩⟩
  have e : x = g := (by simpa using hm)
  subst e
  obtain ⟨cur', hc⟩ := h2.tag hx
  rw [k4.cells] at hc
  simp only [Option.some.injEq, Obj.cells.injEq] at hc
  exact absurd hc.2.1 (by decide)
section
variable {w : World} {ok : Nat → Prop} {R K V N : Nat} {A : LSt} {rows : List (List Int)}
theorem findI_some {ks : List Int} {k : Nat} (h : findK A ks = some k) : findI A ks = k := by unfold findI; rw [h]
theorem findI_none {ks : List Int} (h : findK A ks = none) : findI A ks = -1 := by unfold findI; rw [h]
theorem ne_len {a b : Nat} (h : a ≠ b) : ((a : Int) != (b : Int)) = true := by simp only [bne_iff_ne, ne_eq]; omega
theorem eq_len {a b : Nat} (h : a = b) : ((a : Int) != (b : Int)) = false := by rw [h]; simp
theorem turns_new {w' : World} (h : But [] w w') : Turns ok w w' := .of h (by simp)
end
end Go.Proofs.Ytpoinhfkgnkedaa.M
namespace Go.Proofs.Ytpoinhfkgnkedaa.M
open Go.RowKit
set_option linter.unusedVariables false
set_option linter.unusedSectionVars false
set_option linter.unusedSimpArgs false
/-- Bits as signs. -/
def chs (π : List Int) : List Int := π.map (48 + ·)
theorem chs_len (π : List Int) : (chs π).length = π.length := by simp [chs]
theorem chs_snoc (π : List Int) (x : Int) : chs (π ++ [x]) = chs π ++ [48 + x] := by simp [chs]
theorem chs_bytes {π : List Int} (h : ∀ x ∈ π, x = 0 ∨ x = 1) : ByteL (chs π) := fun x hx => by
  obtain ⟨y, hy, rfl⟩ := List.mem_map.1 hx
  rcases h y hy with rfl | rfl <;> decide
theorem str_snoc (xs : List Int) (x : Int) : strOfNums (xs ++ [x]) = strOfNums xs ++ strOfNums [x] := by
  apply ByteArray.ext
  rw [ByteArray.data_append]
  simp [strOfNums]
theorem str_len (xs : List Int) : (strOfNums xs).size = xs.length := by
  show (strOfNums xs).data.size = _
  simp [strOfNums]
/-- bits: of a key. -/
noncomputable def bitsR (K : Nat) (ks : List Int) : Value := if KeyBad K ks then .tuple #[.string ⟨#[]⟩, .bool false] else .tuple #[.string (strOfNums (chs (kbits ks))), .bool true]
set_option maxRecDepth 100000 in
set_option maxHeartbeats 4000000 in
theorem refBits {w : World} {R K : Nat} (hK : 5 ≤ K ∧ K ≤ 36) (h1 : w.cell? ⟨R, 1, none⟩ = some (.int .i64 K)) (a : Option Addr) (c : Nat) {ks : List Int} (hs : Sees w (.slice a ks.length c) (u8s ks)) (hk : ByteL ks) :
    Calls Try.prog 51 #[.pointer (some ⟨R, 0, none⟩), .slice a ks.length c] w fun e w' => e = .returned (bitsR K ks) ∧ But [] w w' := by
  by_cases hkl : ks.length = K
  · obtain ⟨ad, rfl⟩ := sees_some hs (by omega)
    have h4 : 4 ≤ ks.length := by omega
    obtain ⟨b0, b1, b2, b3, l, hks⟩ := take4 h4
    have hx0 : ks[0]? = some b0 := by rw [hks]; rfl
    have hx1 : ks[1]? = some b1 := by rw [hks]; rfl
    have hx2 : ks[2]? = some b2 := by rw [hks]; rfl
    have hx3 : ks[3]? = some b3 := by rw [hks]; rfl
    have c0 := sees_cellAt hs 0 _ hx0
    rw [add_zero] at c0
    have c1 : w.cell? ⟨ad.block, ad.off + 1, none⟩ = some (.int .u8 b1) := sees_cellAt hs 1 _ hx1
    have c2 : w.cell? ⟨ad.block, ad.off + 2, none⟩ = some (.int .u8 b2) := sees_cellAt hs 2 _ hx2
    have c3 : w.cell? ⟨ad.block, ad.off + 3, none⟩ = some (.int .u8 b3) := sees_cellAt hs 3 _ hx3
    have t4 : leV (ks.take 4) = b0 + b1 * 256 + b2 * 65536 + b3 * 16777216 := by rw [hks]; exact leV4 b0 b1 b2 b3
    have HT4 := Lib.hid t4
    have HKL := Lib.hid hkl
    have HK := Lib.hid hK
    have HS := Lib.hid hs
    have HKB := Lib.hid hk
    have ha := hk b0 (List.mem_of_getElem? hx0)
    have hbb := hk b1 (List.mem_of_getElem? hx1)
    have hc := hk b2 (List.mem_of_getElem? hx2)
    have hd := hk b3 (List.mem_of_getElem? hx3)
    have w1 : wrap64 (b1 * 256) = b1 * 256 := by rw [wrap64]; omega
    have w2 : wrap64 (b2 * 65536) = b2 * 65536 := by rw [wrap64]; omega
    have w3 : wrap64 (b3 * 16777216) = b3 * 16777216 := by rw [wrap64]; omega
    have w4 : wrap64 (b0 + b1 * 256) = b0 + b1 * 256 := by rw [wrap64]; omega
    have w5 : wrap64 (b0 + b1 * 256 + b2 * 65536) = b0 + b1 * 256 + b2 * 65536 := by rw [wrap64]; omega
    have w6 : wrap64 (b0 + b1 * 256 + b2 * 65536 + b3 * 16777216) = b0 + b1 * 256 + b2 * 65536 + b3 * 16777216 := by rw [wrap64]; omega
    have v1 : IntKind.i64.wrap (b1 * 256) = b1 * 256 := by rw [IntKind.wrap_i64]; omega
    have v2 : IntKind.i64.wrap (b2 * 65536) = b2 * 65536 := by rw [IntKind.wrap_i64]; omega
    have v3 : IntKind.i64.wrap (b3 * 16777216) = b3 * 16777216 := by rw [IntKind.wrap_i64]; omega
    have v4 : IntKind.i64.wrap (b0 + b1 * 256) = b0 + b1 * 256 := by rw [IntKind.wrap_i64]; omega
    have v5 : IntKind.i64.wrap (b0 + b1 * 256 + b2 * 65536) = b0 + b1 * 256 + b2 * 65536 := by rw [IntKind.wrap_i64]; omega
    have v6 : IntKind.i64.wrap (b0 + b1 * 256 + b2 * 65536 + b3 * 16777216) = b0 + b1 * 256 + b2 * 65536 + b3 * 16777216 := by rw [IntKind.wrap_i64]; omega
    have x1 : wrap64 b0 = b0 := by rw [wrap64]; omega
    have x2 : wrap64 b1 = b1 := by rw [wrap64]; omega
    have x3 : wrap64 b2 = b2 := by rw [wrap64]; omega
    have x4 : wrap64 b3 = b3 := by rw [wrap64]; omega
    have kc : ∀ (z : Int), IntKind.i64.wrap z = z → ∀ n, (convert 5 3 (.int .u8 z)).run Try.prog (w.drewN n) = .ok (.int .i64 z) (w.drewN n) := fun z hz n => by
      simp [go_sem, hz]
    have k1 := kc b0 (by rw [IntKind.wrap_i64]; omega)
    have k2 := kc b1 (by rw [IntKind.wrap_i64]; omega)
    have k3 := kc b2 (by rw [IntKind.wrap_i64]; omega)
    have k4 := kc b3 (by rw [IntKind.wrap_i64]; omega)
    have q0 : 0 < ks.length := by omega
    have q1 : 1 < ks.length := by omega
    have q2 : 2 < ks.length := by omega
    have q3 : 3 < ks.length := by omega
    have p0 : (0 : Int) < (ks.length : Int) := by omega
    have p1 : (1 : Int) < (ks.length : Int) := by omega
    have p2 : (2 : Int) < (ks.length : Int) := by omega
    have p3 : (3 : Int) < (ks.length : Int) := by omega
    have e1 : ((ks.length : Int) != (K : Int)) = false := by rw [hkl]; simp
    have e2 : decide (ks.length = K) = true := decide_eq_true hkl
    have s1 : wrap64 ((K : Int) - 4) = (K : Int) - 4 := by rw [wrap64]; omega
    have s2 : wrap64 (8 * ((K : Int) - 4)) = 8 * ((K : Int) - 4) := by rw [wrap64]; omega
    clear kc hks hx0 hx1 hx2 hx3 ha hbb hc hd hs hk hkl hK t4 h4
    go_enter Try.func51, Try.ntmps51
    go_wp2_with fail
    go_quiet (fail)
    obtain ⟨wv, h2⟩ : ∃ wz, wz = w.drewN nq := ⟨_, rfl⟩
    rw [← h2]
    have HB2 : Hid (But [] w wv) := Lib.hid (by rw [h2]; exact (But.refl [] _).drewN _)
    have d1 : wv.cell? ⟨R, 1, none⟩ = some (.int .i64 K) := cell_but HB2.out h1 (by simp)
    obtain ⟨n, hn⟩ : ∃ n, n = b0 + b1 * 256 + b2 * 65536 + b3 * 16777216 := ⟨_, rfl⟩
    rw [← hn] at HT4 ⊢
    clear hn h2 w1 w2 w3 w4 w5 w6 v1 v2 v3 v4 v5 v6 x1 x2 x3 x4 k1 k2 k3 k4 q0 q1 q2 q3 p0 p1 p2 p3 e1 e2 c0 c1 c2 c3 h1
    by_cases hbad : 8 * ((K : Int) - 4) < n
    · have r1 : decide (8 * ((K : Int) - 4) < n) = true := decide_eq_true hbad
      have HR : Hid (bitsR K ks = .tuple #[.string ⟨#[]⟩, .bool false]) := Lib.hid (by unfold bitsR; rw [if_pos]; exact .inr (by rw [HT4.out]; exact hbad))
      clear hbad
      go_wp2_with fail
      go_ret2
      exact ⟨by rw [HR.out]; rfl, HB2.out⟩
    have r1 : decide (8 * ((K : Int) - 4) < n) = false := decide_eq_false hbad
    have hok : KeyOk ks := ⟨HKB.out, by have := HKL.out; have := HK.out; omega, by have := HKL.out; have := HK.out; omega, by rw [HT4.out, HKL.out]; omega⟩
    have hm := hok.many
    rw [HT4.out] at hm
    subst hm
    have HOK := Lib.hid hok
    have HR : Hid (bitsR K ks = .tuple #[.string (strOfNums (chs (kbits ks))), .bool true]) := Lib.hid (by
      unfold bitsR
      rw [if_neg]
      unfold KeyBad
      rw [not_or]
      exact ⟨fun h => h HKL.out, by rw [HT4.out]; exact hbad⟩)
    clear hbad hok
    go_wp2_with fail
    clear r1 s1 s2 d1
    go_loopw [7, 8] (fun s i wr => ∃ j : Nat, j ≤ kmany ks ∧ s = .string (strOfNums (chs ((kbits ks).take j))) ∧ i = .int .i64 (j : Int) ∧ But [] w wr) (fun _ i _ => kmany ks - (intOf i).toNat)
    case atStart => exact ⟨0, Nat.zero_le _, rfl, rfl, HB2.out⟩
    case round =>
      obtain ⟨k, hk, rfl, rfl, hb⟩ := hrel
      have HB := Lib.hid hb
      clear hb
      by_cases hlt : k < kmany ks
      · obtain ⟨x, hx, hx0, hx1, hkb⟩ := HOK.out.at' hlt
        have d0 : wr.cell? (ad.add (4 + k / 8)) = some (.int .u8 x) := sees_cellAt (HS.out.but HB.out (by simp)) _ _ hx
        have hkl := HOK.out.le
        have hk9 := HOK.out.long
        have hlt' : (k : Int) < kmany ks := by omega
        have hk0 : (0 : Int) ≤ k := by omega
        have hbit : bits .and .u8 (x / 2 ^ (7 - k % 8)) 1 = x / 2 ^ (7 - k % 8) % 2 := and1 (shr_le hx0 hx1 _).1 (shr_le hx0 hx1 _).2
        have HLT := Lib.hid hlt
        have HMS := Lib.hid (meas_up hlt)
        have hw1 : wrap64 ((k : Int) + 1) = k + 1 := wrap_up (by omega)
        have HTK : Hid (strOfNums (chs ((kbits ks).take (k + 1))) = strOfNums (chs ((kbits ks).take k)) ++ strOfNums [48 + kbit ks k]) := Lib.hid (by rw [kbits_take hlt, chs_snoc, str_snoc])
        obtain ⟨st, hst⟩ : ∃ st, st = strOfNums (chs ((kbits ks).take k)) := ⟨_, rfl⟩
        have hsz : ¬ 9223372036854775807 < st.size + 1 := by
          rw [hst, str_len, chs_len, List.length_take, kbits_len]
          omega
        rw [← hst] at HTK ⊢
        obtain ⟨b, hb⟩ : ∃ b, b = kbit ks k := ⟨_, rfl⟩
        rw [← hb] at HTK hkb
        have h01 := kbit_01 ks k
        rw [← hb] at h01
        rw [← hkb] at hbit
        have HBIT := Lib.hid hkb
        clear hx hst hb hkb hlt
        rcases h01 with rfl | rfl
        · go_wp2_with fail
          go_roundw
          case rel => exact ⟨k + 1, HLT.out, by rw [HTK.out]; rfl, by first | rfl | (rw [hw1]; rfl), HB.out⟩
          case measure => first | exact HMS.out | (rw [hw1]; exact HMS.out)
        · go_wp2_with fail
          go_roundw
          case rel => exact ⟨k + 1, HLT.out, by rw [HTK.out]; rfl, by first | rfl | (rw [hw1]; rfl), HB.out⟩
          case measure => first | exact HMS.out | (rw [hw1]; exact HMS.out)
      · obtain rfl : k = kmany ks := by omega
        clear hlt
        go_wp2_with fail
        go_ret2
        exact ⟨by rw [HR.out, List.take_of_length_le (l := kbits ks) (i := kmany ks) (by rw [kbits_len]; exact Nat.le_refl _)]; rfl, HB.out⟩
  · have e1 : ((ks.length : Int) != (K : Int)) = true := by simp; omega
    have e2 : decide (ks.length = K) = false := decide_eq_false hkl
    have HR : Hid (bitsR K ks = .tuple #[.string ⟨#[]⟩, .bool false]) := Lib.hid (by unfold bitsR; rw [if_pos]; exact .inl hkl)
    clear hkl hs hk hK
    go_enter Try.func51, Try.ntmps51
    go_wp2_with fail
    go_ret2
    exact ⟨by rw [HR.out]; rfl, But.refl _ _⟩
end Go.Proofs.Ytpoinhfkgnkedaa.M
namespace Go.Proofs.Ytpoinhfkgnkedaa.M
open Go.RowKit
set_option linter.unusedVariables false
set_option linter.unusedSectionVars false
set_option linter.unusedSimpArgs false
attribute [local go_sem ↓] Go.wp_at_zero Go.wp_at_succ
section
variable {w : World} {ok : Nat → Prop} {R K V N : Nat} {A : LSt} {rows : List (List Int)}
set_option maxRecDepth 100000 in
set_option maxHeartbeats 4000000 in
theorem RefL.value (h : RefL w ok R K V N A rows) (p : Int) :
    Calls Try.prog 24 #[.pointer (some ⟨R, 0, none⟩), .int .i64 p] w fun e w' => ∃ v, e = .returned (.tuple #[v, .int .i64 (valA N rows p).2]) ∧ NewRow w w' v (valA N rows p).1 ∧ But [] w w' := by
  obtain ⟨la, lc, c4, hP, c1, c2, c3, hlt⟩ := h.slot
  have HH := Lib.hid h
  by_cases h0 : p < 0
  · have e1 : valA N rows p = ([], 6) := if_pos (.inl h0)
    rw [e1]
    clear h hP c4
    go_enter Try.func24, Try.ntmps24
    go_wp2_with fail
    go_ret2
    exact ⟨_, rfl, newRow_nil _ _, But.refl _ _⟩
  · by_cases h1 : (N : Int) ≤ p
    · have e1 : valA N rows p = ([], 6) := if_pos (.inr h1)
      rw [e1]
      clear h hP c4
      go_enter Try.func24, Try.ntmps24
      go_wp2_with fail
      go_ret2
      exact ⟨_, rfl, newRow_nil _ _, But.refl _ _⟩
    · obtain ⟨q, rfl⟩ : ∃ q : Nat, p = q := ⟨p.toNat, by omega⟩
      have hqN : q < N := by omega
      obtain ⟨gv, ov, d, r, g, o, c, cur, hpl⟩ := h.place hqN
      have e1 : valA N rows q = (r, 0) := by
        unfold valA
        rw [if_neg (by omega)]
        simp [hpl.row]
      rw [e1]
      obtain ⟨j0, ki, kz0, kz1, kz2⟩ := info_parts (show (Try.prog.info? 5).map (fun i => (i.zero, i.size, i.bytes)) = some (some (.int .u8 0), 1, 1) by kernel_rfl)
      have e5 := hpl.cell5
      have ep := hpl.cellp
      have hgv := cell_lt ep
      have hrl : r.length ≤ 1024 := by rw [hpl.len]; exact h.bounds.2.1.2
      have HRL : Hid ((u8s r).length ≤ 1024) := Lib.hid (by rw [u8s_len]; exact hrl)
      have HS : Hid (Src Try.prog j0.size 26 (.slice (some ⟨g, o, none⟩) V c) (u8s r).length (u8s r) (w.alloc (.cells #[] 5))) := Lib.hid (src_sees (P := Try.prog) Try.underlying26 kz1 (hpl.sees.but ((But.refl [] w).alloc (.cells #[] 5)) (by simp)) (u8s_one r))
      have HQ0 : Hid (OwnQ (w.alloc (.cells #[] 5)) 5 (.slice (some ⟨w.heap.size, 0, none⟩) 0 0) []) := Lib.hid (fresh_atL w 5)
      have KEY : Hid (∀ (v' : Value) (w5 : World), Appended (w.alloc (.cells #[] 5)) w5 5 (.slice (some ⟨w.heap.size, 0, none⟩) 0 0) v' [] (u8s r) → NewRow w w5 v' r ∧ But [] w w5) := Lib.hid fun v' w5 hap => by
        obtain ⟨a, c, e1, e2, e3, e4⟩ := freshL (w0 := w) ((But.refl [] w).alloc _) (by rw [size_alloc]; omega) hap
        rw [u8s_len] at e1 e2 e3
        exact ⟨⟨a, c, e1, e2, e3⟩, e4⟩
      have q0 : (0 : Int) ≤ q := by omega
      have q1 : (q : Int) < N := by omega
      clear h hP c4 hpl hrl h0 h1 hqN
      go_enter Try.func24, Try.ntmps24
      go_wp2_with (at_builtin; refine wpList_append_row (by rfl) _ _ 26 (by rfl) 5 j0 (.int .u8 0) 1 Try.underlying26 ki kz0 kz1 kz2 rfl _ [] (by rfl) HQ0.out (u8s r) _ (by rfl) HS.out (by have := HRL.out; unfold maxLen; have h0 : ([] : List Value).length = 0 := rfl; omega) (by have := HRL.out; have h0 : ([] : List Value).length = 0 := rfl; omega) ?_; intro v' w5 hap; obtain ⟨hn5, hb5⟩ := KEY.out _ _ hap; obtain ⟨a5, c5, rfl, g5⟩ := id hn5; have HN5 := Lib.hid hn5; have HB5 := Lib.hid hb5; clear hap hn5 hb5 g5)
      go_ret2
      exact ⟨_, rfl, HN5.out, HB5.out⟩
theorem set_num {V n : Nat} (h : V ≤ 1024) (hn : n ≤ 140737488351232) : wrap64 ((V : Int) - n) = (V : Int) - n := by rw [wrap64]; omega
set_option maxRecDepth 100000 in
set_option maxHeartbeats 4000000 in
theorem RefL.set (h : RefL w ok R K V N A rows) (p off : Int) (a : Option Addr) (c : Nat) {bs : List Int} (hs : Sees w (.slice a bs.length c) (u8s bs)) (hby : ByteL bs) (hn : bs.length ≤ 140737488351232) :
    Calls Try.prog 27 #[.pointer (some ⟨R, 0, none⟩), .int .i64 p, .int .i64 off, .slice a bs.length c] w fun e w' => e = .returned (.int .i64 (setA V N rows p off bs).1) ∧ RefL w' ok R K V N A (setA V N rows p off bs).2 ∧ Turns ok w w' := by
  obtain ⟨la, lc, c4, hP, c1, c2, c3, hlt⟩ := h.slot
  have HH := Lib.hid h
  have hw := set_num h.bounds.2.1.2 hn
  by_cases h0 : p < 0
  · have e1 : setA V N rows p off bs = (6, rows) := if_pos (.inl h0)
    rw [e1]
    clear h hP c4
    go_enter Try.func27, Try.ntmps27
    go_wp2_with fail
    go_ret
    exact ⟨rfl, HH.out, .refl _ _⟩
  · by_cases h1 : (N : Int) ≤ p
    · have e1 : setA V N rows p off bs = (6, rows) := if_pos (.inr h1)
      rw [e1]
      clear h hP c4
      go_enter Try.func27, Try.ntmps27
      go_wp2_with fail
      go_ret
      exact ⟨rfl, HH.out, .refl _ _⟩
    · have hpn : ¬ (p < 0 ∨ (N : Int) ≤ p) := by omega
      have h1' : p < (N : Int) := by omega
      have h0' : 0 ≤ p := by omega
      by_cases ho0 : off < 0
      · have e1 : setA V N rows p off bs = (32, rows) := by unfold setA; rw [if_neg hpn, if_pos (.inl ho0)]
        rw [e1]
        clear h hP c4 hpn
        go_enter Try.func27, Try.ntmps27
        go_wp2_with fail
        go_ret
        exact ⟨rfl, HH.out, .refl _ _⟩
      · by_cases ho1 : (V : Int) - bs.length < off
        · have e1 : setA V N rows p off bs = (32, rows) := by unfold setA; rw [if_neg hpn, if_pos (.inr ho1)]
          rw [e1]
          clear h hP c4 hpn
          go_enter Try.func27, Try.ntmps27
          go_wp2_with fail
          go_ret
          exact ⟨rfl, HH.out, .refl _ _⟩
        · obtain ⟨q, rfl⟩ : ∃ q : Nat, p = q := ⟨p.toNat, by omega⟩
          obtain ⟨of, rfl⟩ : ∃ q : Nat, off = q := ⟨off.toNat, by omega⟩
          have hqN : q < N := by omega
          obtain ⟨gv, ov, d, r, g, o, pc, cur, hpl⟩ := h.place hqN
          have e1 : setA V N rows q of bs = (0, rows.set q (setAt r of bs)) := by unfold setA; rw [if_neg hpn, if_neg (by omega)]; simp [hpl.row]
          rw [e1]
          have e5 := hpl.cell5
          have ep := hpl.cellp
          have hfit := hpl.fit
          have hok := hpl.okg
          have HPOS : Hid (0 < (u8s bs).length → ∃ ad, a = some ad ∧ ∀ j v, (u8s bs)[j]? = some v → w.cell? (ad.add j) = some v) := Lib.hid fun h0 => sees_src hs h0
          have HFIT : Hid (o + of + (u8s bs).length ≤ cur.length) := Lib.hid (by rw [u8s_len]; omega)
          have HLN : Hid ((u8s bs).length = Nat.min bs.length (V - of)) := Lib.hid (by rw [u8s_len]; exact (Nat.min_eq_left (by omega)).symm)
          have HG := Lib.hid hpl.cells
          have HK : Hid (∀ w', w'.heap[g]? = some (.cells (splice cur (o + of) (u8s bs)).toArray 5 (0, 0)) → But [g] w w' → RefL w' ok R K V N A (rows.set q (setAt r of bs)) ∧ Turns ok w w') := Lib.hid fun w' hg' hb' => ⟨hpl.turn w' of bs (by omega) hby hg' hb', .of hb' (fun x hx => by have e : x = g := (by simpa using hx); rw [e]; exact hok)⟩
          have q1 : of ≤ V := by omega
          have q2 : V ≤ pc := hfit.2.1
          have q3 : (of : Int) ≤ V := by omega
          have q4 : of ≤ pc := by omega
          by_cases hov : of = pc
          · have hb0 : bs = [] := List.eq_nil_of_length_eq_zero (by omega)
            have HF : Hid (RefL w ok R K V N A (rows.set q (setAt r of bs)) ∧ Turns ok w w) := Lib.hid (HK.out w (by
              rw [hb0]
              have : splice cur (o + of) (u8s []) = cur := by unfold splice u8s; simp
              rw [this]
              exact HG.out) (But.refl _ _))
            have hVo : V = of := by omega
            have hw0 : wrap64 (of : Int) = of := by have := h.bounds.2.1.2; rw [wrap64]; omega
            clear hw
            subst hb0
            subst hov
            subst hVo
            clear h hP c4 hpl hok HPOS HFIT HLN HG HK e1 hs hby hpn hqN hfit
            go_enter Try.func27, Try.ntmps27
            go_wp2_with ((with_reducible refine (show wpList _ _ _ (⟨some 44, _, _, _, _, _⟩ :: _) _ _ from ?_)); refine wpList_copy_nothing rfl (.tmp 42) (.tmp 43) 26 26 rfl 5 Try.underlying26 (by kernel_rfl) _ _ _ _ _ _ rfl rfl (by simp) ?_)
            go_ret
            exact ⟨rfl, HF.out⟩
          · have hov' : ¬ (pc = of) := fun e => hov e.symm
            clear h hP c4 hpl hok e1 hs hby hpn hqN hfit hov
            go_enter Try.func27, Try.ntmps27
            go_wp2_with ((with_reducible refine (show wpList _ _ _ (⟨some 44, _, _, _, _, _⟩ :: _) _ _ from ?_)); refine wpList_copy_but rfl (.tmp 42) (.tmp 43) 26 26 rfl 5 Try.underlying26 (by kernel_rfl) (some ⟨g, o + of, none⟩) a (V - of) (pc - of) bs.length c rfl rfl g (o + of) cur 5 HG.out (u8s bs) HLN.out (fun h => ⟨rfl, HPOS.out h⟩) HFIT.out (u8s_one bs) ?_; intro w5 hg5 hb5; have HF := Lib.hid (HK.out w5 hg5 hb5); clear hg5 hb5)
            go_ret
            exact ⟨rfl, HF.out⟩
end
end Go.Proofs.Ytpoinhfkgnkedaa.M
namespace Go.Proofs.Ytpoinhfkgnkedaa.M
open Go.RowKit
set_option linter.unusedVariables false
set_option linter.unusedSectionVars false
set_option linter.unusedSimpArgs false
def lookN (A : LSt) (cs : List Int) : Nat → Int × Int
  | 0 => (0, 6)
  | n + 1 => match findK A (cs.take n) with | some k => ((placeA A k : Nat), 0) | none => lookN A cs n
/-- Lookup: of a row of signs. -/
noncomputable def lookR (K : Nat) (A : LSt) (ks : List Int) : Int × Int := if KeyBad K ks then (0, 2) else lookN A (chs (kbits ks)) ((kbits ks).length + 1)
theorem findI_hit {A : LSt} {ks : List Int} (h : findI A ks ≠ -1) : ∃ k x, findK A ks = some k ∧ findI A ks = (k : Int) ∧ A[k]? = some x ∧ x.2 = placeA A k := by
  unfold findI at h ⊢
  cases hf : findK A ks with
  | none => rw [hf] at h; exact absurd rfl h
  | some k =>
    obtain ⟨hk, -, -⟩ := List.findIdx?_eq_some_iff_getElem.1 hf
    exact ⟨k, A[k], rfl, rfl, List.getElem?_eq_getElem hk, by unfold placeA; rw [List.getElem?_eq_getElem hk]; rfl⟩
theorem findI_ge (A : LSt) (ks : List Int) : findI A ks = -1 ∨ ∃ k : Nat, findI A ks = (k : Int) := by
  unfold findI
  cases findK A ks with
  | none => exact .inl rfl
  | some k => exact .inr ⟨k, rfl⟩
theorem str_take (xs : List Int) (n : Nat) : (strOfNums xs).extract 0 n = strOfNums (xs.take n) := by
  apply ByteArray.ext
  rw [ByteArray.data_extract]
  simp [strOfNums]
theorem take_bytes {xs : List Int} (h : ByteL xs) (n : Nat) : ByteL (xs.take n) := fun x hx => h x (List.mem_of_mem_take hx)
section
variable {w : World} {ok : Nat → Prop} {R K V N : Nat} {A : LSt} {rows : List (List Int)}
set_option maxRecDepth 100000 in
set_option maxHeartbeats 4000000 in
theorem RefL.lookup (h : RefL w ok R K V N A rows) (a : Option Addr) (c : Nat) {ks : List Int} (hs : Sees w (.slice a ks.length c) (u8s ks)) (hk : ByteL ks) :
    Calls Try.prog 22 #[.pointer (some ⟨R, 0, none⟩), .slice a ks.length c] w fun e w' => e = .returned (.tuple #[.int .i64 (lookR K A ks).1, .int .i64 (lookR K A ks).2]) ∧ But [] w w' := by
  obtain ⟨la, lc, c4, hP, c1, c2, c3, hlt⟩ := h.slot
  have HB := Lib.hid (refBits h.bounds.1 c1 a c hs hk)
  by_cases hbad : KeyBad K ks
  · have hr : lookR K A ks = (0, 2) := if_pos hbad
    have hb : bitsR K ks = .tuple #[.string ⟨#[]⟩, .bool false] := if_pos hbad
    rw [hb] at HB
    rw [hr]
    clear h hP c4 c1 c2 c3 hlt hbad hr hb hs hk
    go_enter Try.func22, Try.ntmps22
    go_wp2_with fail
    refine HB.out.mono ?_
    rintro e w2 ⟨rfl, hb2⟩
    go_wp2_with fail
    go_ret2
    exact ⟨rfl, hb2⟩
  · have hr : lookR K A ks = lookN A (chs (kbits ks)) ((chs (kbits ks)).length + 1) := by unfold lookR; rw [if_neg hbad, chs_len]
    have hb : bitsR K ks = .tuple #[.string (strOfNums (chs (kbits ks))), .bool true] := if_neg hbad
    have hcb := chs_bytes (π := kbits ks) (fun x hx => by
      obtain ⟨i, _, rfl⟩ := List.mem_map.1 hx
      exact kbit_01 ks i)
    have hcl : (chs (kbits ks)).length ≤ 256 := by
      rw [chs_len, kbits_len]
      have h1 := (keyOk_of h.bounds.1 hk hbad)
      have h2 := h1.1.le
      have h3 := h1.2
      have := h.bounds.1
      omega
    rw [hb] at HB
    rw [hr]
    obtain ⟨cs, hcs⟩ : ∃ cs, cs = chs (kbits ks) := ⟨_, rfl⟩
    rw [← hcs] at HB hcb hcl ⊢
    have HF : Hid (∀ (w' : World) (n : Nat), But [] w w' → Calls Try.prog 52 #[.pointer (some ⟨R, 0, none⟩), .string (strOfNums (cs.take n))] w' fun e w2 => e = .returned (.int .i64 (findI A (cs.take n))) ∧ But [] w' w2) := Lib.hid fun w' n hb' =>
      refFind (cell_but hb' c4 (by simp)) (hP.but hb' (by simp)) (fun x hx => (h.keys x hx).1) (by have := h.len; have := h.bounds.2.2; omega) (take_bytes hcb n)
    have HC4 := Lib.hid c4
    have HP := Lib.hid hP
    clear h hP c4 c1 c2 c3 hlt hbad hr hb hs hk hcs
    go_enter Try.func22, Try.ntmps22
    go_wp2_with fail
    refine HB.out.mono ?_
    rintro e w2 ⟨rfl, hb2⟩
    have HB2 := Lib.hid hb2
    clear hb2
    have hsz : (strOfNums cs).size = cs.length := str_len cs
    go_wp2_with fail
    go_loopw [8] (fun i wr => ∃ j : Nat, j ≤ cs.length + 1 ∧ i = .int .i64 ((j : Int) - 1) ∧ lookN A cs (cs.length + 1) = lookN A cs j ∧ But [] w wr) (fun i _ => (intOf i + 1).toNat)
    case atStart => exact ⟨cs.length + 1, Nat.le_refl _, by simp, rfl, HB2.out⟩
    case round =>
      obtain ⟨j, hj, rfl, hlk, hb⟩ := hrel
      have HBR := Lib.hid hb
      have HLK := Lib.hid hlk
      clear hb hlk
      cases j with
      | zero =>
        go_wp2_with fail
        go_ret2
        exact ⟨by rw [HLK.out]; rfl, HBR.out⟩
      | succ j =>
        have e1 : (((j + 1 : Nat) : Int) - 1) = (j : Int) := by omega
        rw [e1]
        have hj0 : (0 : Int) ≤ (j : Int) := by omega
        have hj1 : j ≤ cs.length := by omega
        have hj2 : j + 1 ≤ cs.length + 1 := hj
        have HJ := Lib.hid hj1
        have hwj : wrap64 ((j : Int) - 1) = (j : Int) - 1 := by rw [wrap64]; omega
        clear hj e1
        go_wp2_with fail
        rw [str_take]
        refine (HF.out wr j HBR.out).mono ?_
        rintro e w4 ⟨rfl, hb4⟩
        have HB4 : Hid (But [] w w4) := Lib.hid (HBR.out.trans hb4 (by simp))
        clear hb4
        cases hfk : findK A (cs.take j) with
        | none =>
          have hfi : findI A (cs.take j) = -1 := findI_none hfk
          have HST : Hid (lookN A cs (j + 1) = lookN A cs j) := Lib.hid (by rw [lookN, hfk])
          rw [hfi]
          clear hfk hfi
          go_wp2_with fail
          go_roundw
          case rel => exact ⟨j, by have := HJ.out; omega, rfl, HLK.out.trans HST.out, HB4.out⟩
          case measure => simp only [intOf]; omega
        | some k =>
          have hfi : findI A (cs.take j) = (k : Int) := findI_some hfk
          obtain ⟨hkA, -, -⟩ := List.findIdx?_eq_some_iff_getElem.1 hfk
          have hx : A[k]? = some A[k] := List.getElem?_eq_getElem hkA
          obtain ⟨x, hxe⟩ : ∃ x, x = A[k] := ⟨_, rfl⟩
          rw [← hxe] at hx
          have hpl : placeA A k = x.2 := by unfold placeA; rw [hx]; rfl
          have HST : Hid (lookN A cs (j + 1) = ((x.2 : Int), 0)) := Lib.hid (by rw [lookN, hfk]; dsimp only; rw [hpl])
          rw [hfi]
          obtain ⟨g, rfl⟩ := HP.out.addr (by omega)
          have d2 := ((HP.out.but HB4.out (by simp)).at2 (enc_get hx)).2
          dsimp only at d2
          have d4 : w4.cell? ⟨R, 4, none⟩ = some (.slice (some ⟨g, 0, none⟩) A.length lc) := cell_but HB4.out HC4.out (by simp)
          have k0 : (0 : Int) ≤ (k : Int) := by omega
          have k1 : (k : Int) < (A.length : Int) := by omega
          clear hfk hfi hx hxe hpl hwj
          go_wp2_with fail
          go_ret2
          exact ⟨by rw [HLK.out, HST.out]; rfl, HB4.out⟩
end
end Go.Proofs.Ytpoinhfkgnkedaa.M
