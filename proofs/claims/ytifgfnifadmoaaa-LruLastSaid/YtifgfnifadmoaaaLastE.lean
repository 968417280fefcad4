/-
  LruLast, plain: the last loop: all keys looked up in order; used places.
-/
import Derived.Test.YtifgfnifadmoaaaLastI
import Derived.Test.YtifgfnifadmoaaaSameR
import Derived.Test.YtifgfnifadmoaaaAlloc
namespace Go.Proofs.Ytifgfnifadmoaaa.M
open Go.RowKit
set_option linter.unusedVariables false
set_option linter.unusedSectionVars false
set_option linter.unusedSimpArgs false
theorem RQ.seesRows {w W : World} {S : Nat → Prop} {v : Value} {X : List (List Int)} (h : RQ w W S v X) (hb : But [] w W) : SeesRows W v (X.map u8s) := by
  obtain ⟨vals, h1, h2, h3, h4⟩ := h
  refine ⟨vals, h1.sees, by rw [List.length_map, h2], fun i x r hx hr => ?_⟩
  rw [List.getElem?_map] at hr
  obtain ⟨s, hs, rfl⟩ := Option.map_eq_some_iff.1 hr
  obtain ⟨a, c, rfl, h5, _⟩ := h4 i x s hx hs
  exact h5.but hb (by simp)
theorem za_keys {rows X Y : List (List Int)} {A : LSt} (h : ZA rows A = X.zip Y) (hl : X.length = Y.length) : A.map (·.1) = X := by
  have h1 : (ZA rows A).map (·.1) = A.map (·.1) := by unfold ZA; rw [List.map_map]; rfl
  rw [← h1, h, List.map_fst_zip (by omega)]
theorem za_vals {rows X Y : List (List Int)} {A : LSt} (h : ZA rows A = X.zip Y) (hl : X.length = Y.length) : A.map (fun x => rowOf rows x.2) = Y := by
  have h1 : (ZA rows A).map (·.2) = A.map (fun x => rowOf rows x.2) := by unfold ZA; rw [List.map_map]; rfl
  rw [← h1, h, List.map_snd_zip (by omega)]
theorem LO.keysX {w W : World} {S : Nat → Prop} {P K V N : Nat} {A : LSt} {rows X : List (List Int)} (h : LO w W S P K V N A rows) (hX : A.map (·.1) = X) (hN : N ≤ 1024) :
    Calls Try.prog 12 #[.pointer (some ⟨P, 0, none⟩)] W fun e w' => ∃ a c, e = .returned (.slice a X.length c) ∧ SeesRows w' (.slice a X.length c) (X.map u8s) ∧ But [] W w' := by
  subst hX
  have := h.ls.keys hN
  rw [List.length_map]
  exact this
theorem same_rows_yes (a b : Option Addr) (c d : Nat) (X : List (List Int)) (w : World) (hs : SeesRows w (.slice a X.length c) (X.map u8s)) (ht : SeesRows w (.slice b X.length d) (X.map u8s)) (hl : ∀ r ∈ X, r.length ≤ 1000000000000) (hn : X.length ≤ 1048576) :
    Calls Try.prog 16 #[.slice a X.length c, .slice b X.length d] w fun e w' => e = .returned (.bool true) ∧ But [] w w' := by
  have := sameRows a b c d X X w hs ht hl hn
  rw [decide_eq_true rfl] at this
  exact this
theorem LS.klen {w : World} {ok : Nat → Prop} {P K V N : Nat} {A : LSt} {rows : List (List Int)} (h : LS w ok P K V N A rows) : ∀ x ∈ A, x.1.length = K := fun x hx => by
  obtain ⟨M, U, Rm, g, E, h1, h2, h3, h4⟩ := h
  have h5 : (strOfNums x.1, x.2) ∈ enc A := List.mem_map_of_mem (f := fun x : List Int × Nat => (strOfNums x.1, x.2)) hx
  rw [← h2] at h5
  obtain ⟨e, he, h6⟩ := List.mem_map.1 h5
  simp only [Prod.mk.injEq] at h6
  have h7 := h1.keys.2 e he
  rw [h6.1, strOfNums_size] at h7
  exact h7
def rotA (A : LSt) (n : Nat) : LSt := A.drop n ++ A.take n
theorem rot_mem {A : LSt} {n : Nat} {x : List Int × Nat} : x ∈ rotA A n ↔ x ∈ A := by
  unfold rotA
  rw [List.mem_append, or_comm, ← List.mem_append, List.take_append_drop]
theorem rot_look {A : LSt} {n K p : Nat} {x : List Int} (h : A[n]? = some (x, p)) (hk : x.length = K) : lookA K (rotA A n) x = (p, 0, rotA A (n + 1)) := by
  have hn := (List.getElem?_eq_some_iff.1 h).1
  have e1 : A.drop n = (x, p) :: A.drop (n + 1) := by
    rw [List.drop_eq_getElem_cons hn]
    congr 1
    exact (List.getElem?_eq_some_iff.1 h).2
  have e2 : A.take (n + 1) = A.take n ++ [(x, p)] := by
    rw [List.take_add_one, h]
    rfl
  have e3 : rotA A n = (x, p) :: (A.drop (n + 1) ++ A.take n) := by
    unfold rotA
    rw [e1]
    rfl
  have e4 : findK (rotA A n) x = some 0 := by
    rw [e3]
    unfold findK
    rw [List.findIdx?_cons, if_pos (by simp)]
  unfold lookA
  rw [if_neg (by simp [hk])]
  simp only [e4]
  unfold placeA youngA
  rw [e3]
  unfold rotA
  rw [e2]
  simp
/-- The places that were told. -/
def usedF (A : LSt) (n p : Nat) : Value := .bool ((A.take n).any fun x => x.2 == p)
structure EndL (w W : World) (U P K V N : Nat) (A : LSt) (rows X Y : List (List Int)) (ov vv : Value) (Bx : List (Nat × Obj)) (n : Nat) : Prop where
  ex : ∃ S, LO w W S P K V N (rotA A n) rows ∧ RQ w W S ov X ∧ RQ w W S vv Y ∧ ¬ S U ∧ BoxesOff S W Bx
  used : ∃ C, W.heap[U]? = some (.cells C 4 (0, 0)) ∧ C.size = N ∧ ∀ i, i < N → C[i]? = some (usedF A n i)
  low : w.heap.size ≤ U
  boxU : ∀ p ∈ Bx, p.1 ≠ U
  box : ∀ b, ov.ownBlock = some b ∨ vv.ownBlock = some b → b ≠ U
section
variable {w W : World} {U P K V N : Nat} {A : LSt} {rows X Y : List (List Int)} {ov vv : Value} {Bx : List (Nat × Obj)} {n : Nat}
theorem EndL.but (h : EndL w W U P K V N A rows X Y ov vv Bx n) : But [] w W := by
  obtain ⟨S, h1, _⟩ := h.ex
  exact h1.but
theorem EndL.rx (h : EndL w W U P K V N A rows X Y ov vv Bx n) {oa : Option Addr} {m oc : Nat} (e : ov = .slice oa m oc) {i : Nat} {r : List Int} (hr : X[i]? = some r) : ∃ ad a c, oa = some ad ∧ W.cell? (ad.add i) = some (.slice a r.length c) ∧ RowIn w (.slice a r.length c) r := by
  obtain ⟨S, h1, h2, h3, h4, h9⟩ := h.ex
  subst e
  exact h2.rowAt hr
theorem EndL.ry (h : EndL w W U P K V N A rows X Y ov vv Bx n) {oa : Option Addr} {m oc : Nat} (e : vv = .slice oa m oc) {i : Nat} {r : List Int} (hr : Y[i]? = some r) : ∃ ad a c, oa = some ad ∧ W.cell? (ad.add i) = some (.slice a r.length c) ∧ RowIn w (.slice a r.length c) r := by
  obtain ⟨S, h1, h2, h3, h4, h9⟩ := h.ex
  subst e
  exact h3.rowAt hr
theorem EndL.keep {W' : World} (h : EndL w W U P K V N A rows X Y ov vv Bx n) (hb : But [] W W') : EndL w W' U P K V N A rows X Y ov vv Bx n := by
  obtain ⟨⟨S, h1, h2, h3, h4, h9⟩, ⟨C, g1, g2, g3⟩, hl, hbu, hx⟩ := h
  exact ⟨⟨S, h1.keep hb (by simp), h2.keep hb (by simp), h3.keep hb (by simp), h4, h9.keep hb (by simp)⟩, ⟨C, hb.heap g1 (by simp), g2, g3⟩, hl, hbu, hx⟩
/-- Looked up; its place is marked. -/
theorem EndL.look (h : EndL w W U P K V N A rows X Y ov vv Bx n) (a : Option Addr) (c : Nat) {x : List Int} {p : Nat} (hx : A[n]? = some (x, p)) (hs : Sees W (.slice a x.length c) (u8s x)) (hk : ByteL x) (hkl : x.length = K) :
    Calls Try.prog 11 #[.pointer (some ⟨P, 0, none⟩), .slice a x.length c] W fun r w' => r = .returned (.tuple #[.int .i64 p, .int .i64 0]) ∧ But [] w w' ∧ (∀ q ∈ Bx, w'.heap[q.1]? = some q.2) ∧ (p < N → w'.cell? ⟨U, p, none⟩ = some (usedF A n p) ∧ w'.frozen? ⟨U, p, none⟩ = false ∧ EndL w (w'.setCell ⟨U, p, none⟩ (.bool true)) U P K V N A rows X Y ov vv Bx (n + 1)) := by
  obtain ⟨⟨S, h1, h2, h3, h4, h9⟩, ⟨C, g1, g2, g3⟩, hl, hbu, hbx⟩ := h
  refine (h1.lookup a c hs hk).mono ?_
  rintro r w' ⟨rfl, S', hL, hT⟩
  rw [rot_look hx hkl] at hL ⊢
  have hbx9 := h9.turn hT
  refine ⟨rfl, hL.but, fun q hq => (hbx9 q hq).2, fun hp => ?_⟩
  have hg : ¬ S' U ∧ w'.heap[U]? = some (.cells C 4 (0, 0)) := by
    have hlt := lt_of g1
    have h2' := hT
    obtain ⟨hS, L, hLL, hb⟩ := h2'
    refine ⟨fun hs => h4 (hS _ hlt hs), hb.heap g1 (fun hm => ?_)⟩
    rcases hLL _ hm with h5 | h5
    · exact h4 h5
    · omega
  have hb : But [U] w' (w'.setCell ⟨U, p, none⟩ (.bool true)) := (But.refl _ _).setCell (.inl (by simp)) _
  refine ⟨by rw [cl_of hg.2]; exact g3 p hp, by unfold World.frozen?; rw [hg.2]; simp, ⟨⟨S', hL.keep hb (fun y hy => by have e : y = U := (by simpa using hy); rw [e]; exact ⟨hg.1, hl⟩), (h2.turn hT).keep hb (fun b hb' hm => hbx b (.inl hb') (by simpa using hm)), (h3.turn hT).keep hb (fun b hb' hm => hbx b (.inr hb') (by simpa using hm)), hg.1, hbx9.keep hb (fun q hq hm => hbu q hq (by simpa using hm))⟩, ⟨C.setIfInBounds p (.bool true), by simp [World.setCell, Array.getElem?_modify, hg.2], by simp [g2], fun i hi => ?_⟩, hl, hbu, hbx⟩⟩
  have e2 : A.take (n + 1) = A.take n ++ [(x, p)] := by
    rw [List.take_add_one, hx]
    rfl
  rw [Array.getElem?_setIfInBounds]
  unfold usedF
  rw [e2]
  by_cases e : p = i
  · subst e
    rw [if_pos rfl, if_pos (by omega)]
    simp
  · rw [if_neg e, g3 i hi]
    unfold usedF
    congr 2
    simp [e]
theorem EndL.value (h : EndL w W U P K V N A rows X Y ov vv Bx n) {p : Nat} (hp : p < N) :
    Calls Try.prog 17 #[.pointer (some ⟨P, 0, none⟩), .int .i64 p] W fun e w' => ∃ a c, e = .returned (.tuple #[.slice a (rowOf rows p).length c, .int .i64 0]) ∧ Sees w' (.slice a (rowOf rows p).length c) (u8s (rowOf rows p)) ∧ EndL w w' U P K V N A rows X Y ov vv Bx n ∧ But [] W w' := by
  have h0 := h
  obtain ⟨⟨S, h1, h2, h3, h4, h9⟩, _⟩ := h
  refine (h1.ls.value (p : Int)).mono ?_
  rintro e w' ⟨v, rfl, hv, hb⟩
  have e1 : valA N rows p = (rowOf rows p, 0) := by
    unfold valA rowOf
    rw [if_neg (by omega)]
    rfl
  rw [e1] at hv ⊢
  obtain ⟨a, c, rfl, hown, _⟩ := hv
  exact ⟨a, c, rfl, hown.sees, h0.keep hb, hb⟩
end
theorem key_at {A : LSt} {X : List (List Int)} (hk : A.map (·.1) = X) {n : Nat} {x : List Int} (hx : X[n]? = some x) : ∃ p, A[n]? = some (x, p) := by
  rw [← hk, List.getElem?_map] at hx
  obtain ⟨⟨y, p⟩, h1, rfl⟩ := Option.map_eq_some_iff.1 hx
  exact ⟨p, h1⟩
theorem val_at {A : LSt} {rows Y : List (List Int)} (hk : A.map (fun x => rowOf rows x.2) = Y) {n p : Nat} {x : List Int} (hx : A[n]? = some (x, p)) : Y[n]? = some (rowOf rows p) := by
  rw [← hk, List.getElem?_map, hx]
  rfl
theorem used_not {A : LSt} {n p : Nat} {x : List Int} (h : A[n]? = some (x, p)) (hn : (A.map (·.2)).Nodup) : usedF A n p = .bool false := by
  unfold usedF
  congr 1
  rw [List.any_eq_false]
  intro y hy
  simp only [beq_iff_eq]
  intro e
  obtain ⟨i, hi⟩ := List.getElem?_of_mem hy
  have hil : i < n := by
    have := (List.getElem?_eq_some_iff.1 hi).1
    rw [List.length_take] at this
    omega
  rw [List.getElem?_take, if_pos hil] at hi
  have h1 : (A.map (·.2))[i]? = some p := by rw [List.getElem?_map, hi, ← e]; rfl
  have h2 : (A.map (·.2))[n]? = some p := by rw [List.getElem?_map, h]; rfl
  have h3 := (List.getElem?_eq_some_iff.1 h1).1
  have := (List.getElem?_inj h3 hn).1 (h1.trans h2.symm)
  omega
theorem endL_start {w W : World} {P K V N : Nat} {A : LSt} {rows X Y : List (List Int)} {ov vv : Value} {S : Nat → Prop} (h1 : LO w W S P K V N A rows) (h2 : RQ w W S ov X) (h3 : RQ w W S vv Y) {Bx : List (Nat × Obj)} (h9 : BoxesOff S W Bx) (C : Array Value) (hC : C = madeCells #[.bool false] N) : EndL w (W.alloc (.cells C 4)) W.heap.size P K V N A rows X Y ov vv Bx 0 := by
  have hb : But [] W (W.alloc (.cells C 4)) := (But.refl [] W).alloc _
  refine ⟨⟨S, ?_, h2.keep hb (by simp), h3.keep hb (by simp), fun hs => by have := (h1.low _ hs).2; omega, h9.keep hb (by simp)⟩, ⟨C, al_at _ _, by rw [hC]; simp [madeCells], fun i hi => ?_⟩, h1.but.size, fun q hq e => by have := lt_of (h9 q hq).2; omega, fun b hb' e => ?_⟩
  · have e : rotA A 0 = A := by unfold rotA; simp
    rw [e]
    exact h1.keep hb (by simp)
  · rw [hC]
    unfold usedF
    simp [madeCells, hi, Nat.mod_one]
  · rcases hb' with hb' | hb'
    · have := h2.lt b hb'; omega
    · have := h3.lt b hb'; omega
end Go.Proofs.Ytifgfnifadmoaaa.M
