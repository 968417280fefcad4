/-
  LruLast, plain: the inner loop's state: two rows of rows that grow, beside those that stand.
-/
import Derived.Test.YtifgfnifadmoaaaLastM
namespace Go.Proofs.Ytifgfnifadmoaaa.M
open Go.RowKit
set_option linter.unusedVariables false
set_option linter.unusedSectionVars false
set_option linter.unusedSimpArgs false
/-- The value behind some rounds. -/
def lastV (q : Int) (ks vs : List Int) (Z : List (List Int × List Int)) : List Int := Z.foldl (fun v z => if z.1 = ks ∧ q ≤ 1 then z.2 else v) vs
theorem lastV_snoc (q : Int) (ks vs : List Int) (Z : List (List Int × List Int)) (z : List Int × List Int) : lastV q ks vs (Z ++ [z]) = if z.1 = ks ∧ q ≤ 1 then z.2 else lastV q ks vs Z := by simp [lastV, List.foldl_append]
theorem lastV_no {q : Int} {ks : List Int} : ∀ {Z : List (List Int × List Int)} (vs : List Int), (∀ z ∈ Z, z.1 ≠ ks) → lastV q ks vs Z = vs
  | [], _, _ => rfl
  | z :: Z, vs, h => by
    have h1 := h z (by simp)
    show lastV q ks (if z.1 = ks ∧ q ≤ 1 then z.2 else vs) Z = vs
    rw [if_neg (fun e => h1 e.1)]
    exact lastV_no vs (fun y hy => h y (by simp [hy]))
theorem lastV_look {q : Int} {ks : List Int} (hq : q ≤ 1) : ∀ {Z : List (List Int × List Int)} {n : Nat} {v : List Int} (vs : List Int), (Z.map (·.1)).Nodup → Z[n]? = some (ks, v) → lastV q ks vs Z = v
  | [], n, v, vs, _, h => by simp at h
  | z :: Z, 0, v, vs, hn, h => by
    simp at h
    subst h
    simp only [List.map_cons, List.nodup_cons] at hn
    show lastV q ks (if ks = ks ∧ q ≤ 1 then v else vs) Z = v
    rw [if_pos ⟨rfl, hq⟩]
    exact lastV_no v (fun y hy e => hn.1 (e ▸ List.mem_map_of_mem hy))
  | z :: Z, n + 1, v, vs, hn, h => by
    simp only [List.map_cons, List.nodup_cons] at hn
    show lastV q ks (if z.1 = ks ∧ q ≤ 1 then z.2 else vs) Z = v
    exact lastV_look hq _ hn.2 (by simpa using h)
theorem lastV_upd {q : Int} {ks : List Int} (hq : 1 < q) : ∀ (Z : List (List Int × List Int)) (vs : List Int), lastV q ks vs Z = vs
  | [], _ => rfl
  | z :: Z, vs => by
    show lastV q ks (if z.1 = ks ∧ q ≤ 1 then z.2 else vs) Z = vs
    rw [if_neg (fun e => by omega)]
    exact lastV_upd hq Z vs
def keysB (ks : List Int) (Z : List (List Int × List Int)) : List (List Int) := (but1 ks Z).map (·.1)
def valsB (ks : List Int) (Z : List (List Int × List Int)) : List (List Int) := (but1 ks Z).map (·.2)
theorem zip_parts (Z : List (List Int × List Int)) : (Z.map (·.1)).zip (Z.map (·.2)) = Z := by
  induction Z with
  | nil => rfl
  | cons z Z ih => simp only [List.map_cons, List.zip_cons_cons, ih]
theorem bvals_len (ks : List Int) (Z : List (List Int × List Int)) : (keysB ks Z).length = (valsB ks Z).length := by simp [keysB, valsB]
theorem keysB_len (ks : List Int) (Z : List (List Int × List Int)) : (keysB ks Z).length ≤ Z.length := by
  unfold keysB but1
  rw [List.length_map]
  exact List.length_filter_le _ _
theorem keysB_hit {ks : List Int} {Z : List (List Int × List Int)} {z : List Int × List Int} (h : z.1 = ks) : keysB ks (Z ++ [z]) = keysB ks Z ∧ valsB ks (Z ++ [z]) = valsB ks Z := by
  unfold keysB valsB but1
  rw [List.filter_append, List.filter_cons_of_neg (by simp [h])]
  simp
theorem keysB_miss {ks : List Int} {Z : List (List Int × List Int)} {z : List Int × List Int} (h : z.1 ≠ ks) : keysB ks (Z ++ [z]) = keysB ks Z ++ [z.1] ∧ valsB ks (Z ++ [z]) = valsB ks Z ++ [z.2] := by
  unfold keysB valsB but1
  rw [List.filter_append, List.filter_cons_of_pos (by simp [h])]
  simp
theorem zip_at {X Y : List (List Int)} {n : Nat} {x y : List Int} (hx : X[n]? = some x) (hy : Y[n]? = some y) : (X.zip Y)[n]? = some (x, y) := by
  rw [List.getElem?_zip_eq_some]
  exact ⟨hx, hy⟩
theorem take_at {Z : List (List Int × List Int)} {n : Nat} {z : List Int × List Int} (h : Z[n]? = some z) : Z.take (n + 1) = Z.take n ++ [z] := by
  rw [List.take_add_one, h]
  rfl
theorem own_unique {W : World} {e : TypeId} {v : Value} {xs ys : List Value} (h : OwnQ W e v xs) (k : OwnQ W e v ys) : xs = ys := by
  obtain ⟨a, c, rfl⟩ := h.form
  have hl := k.len
  cases xs with
  | nil => exact (List.eq_nil_of_length_eq_zero (by simpa using hl)).symm
  | cons x xs =>
    obtain ⟨g, o, rfl⟩ := h.addr (by simp)
    refine List.ext_getElem? fun j => ?_
    by_cases hj : j < (x :: xs).length
    · have h1 := h.cellAt (List.getElem?_eq_getElem hj)
      have h2 := k.cellAt (List.getElem?_eq_getElem (by rw [hl]; exact hj))
      rw [List.getElem?_eq_getElem hj, List.getElem?_eq_getElem (by rw [hl]; exact hj)]
      rw [h1] at h2
      exact h2
    · rw [List.getElem?_eq_none (by omega), List.getElem?_eq_none (by omega)]
theorem RowIn.len {w : World} {x : Value} {r : List Int} (h : RowIn w x r) : ∃ a c, x = .slice a r.length c := by
  obtain ⟨a, c, e, _⟩ := h
  exact ⟨a, c, e⟩
theorem RQ.row {w W : World} {S : Nat → Prop} {v : Value} {X : List (List Int)} (h : RQ w W S v X) {i : Nat} {r : List Int} (hr : X[i]? = some r) : ∃ ad n cc a c, v = .slice (some ad) n cc ∧ W.cell? (ad.add i) = some (.slice a r.length c) ∧ RowIn w (.slice a r.length c) r := by
  obtain ⟨ad, n, cc, a, c, h1, h2, _⟩ := h.at' hr
  obtain ⟨vals, g1, g2, g3, g4⟩ := h
  have hi : i < vals.length := by rw [g2]; exact (List.getElem?_eq_some_iff.1 hr).1
  have hv := List.getElem?_eq_getElem hi
  obtain ⟨a0, c0, e0, hx⟩ := sees_shape g1.sees
  obtain ⟨ad', e1, hc⟩ := hx i _ hv
  rw [e0, e1] at h1
  simp only [Value.slice.injEq, Option.some.injEq] at h1
  rw [h1.1] at hc
  have e2 : vals[i] = Value.slice a r.length c := Option.some.inj (hc.symm.trans h2)
  exact ⟨ad, n, cc, a, c, by rw [e0, e1, h1.1, h1.2.1, h1.2.2], h2, by rw [← e2]; exact g4 i _ r hv hr⟩
theorem RQ.rowAt {w W : World} {S : Nat → Prop} {oa : Option Addr} {n oc : Nat} {X : List (List Int)} (h : RQ w W S (.slice oa n oc) X) {i : Nat} {r : List Int} (hr : X[i]? = some r) : ∃ ad a c, oa = some ad ∧ W.cell? (ad.add i) = some (.slice a r.length c) ∧ RowIn w (.slice a r.length c) r := by
  obtain ⟨ad, m, cc, a, c, e, h1, h2⟩ := h.row hr
  simp only [Value.slice.injEq] at e
  exact ⟨ad, a, c, e.1, h1, h2⟩
theorem RQ.len {w W : World} {S : Nat → Prop} {oa : Option Addr} {n oc : Nat} {X : List (List Int)} (h : RQ w W S (.slice oa n oc) X) : X.length = n := by
  obtain ⟨a, c, e⟩ := h.form
  cases e
  rfl
theorem src_one {i0 : TypeInfo} (hz1 : i0.size = 1) (w5 : World) (a5 : Option Addr) (n5 c5 : Nat) : Src Try.prog i0.size 26 (.slice (some ⟨w5.heap.size, 0, none⟩) 1 1) [Value.slice a5 n5 c5].length [Value.slice a5 n5 c5] (w5.alloc (.cells #[.slice a5 n5 c5] 25)) := by
  rw [hz1]
  exact Src.ofSlice _ Try.underlying26 _ 1 1 _ (by simp) (cell_one_new _ _ _) (by intro u hu; simp at hu; subst hu; rfl)
structure InL (w W0 W : World) (S : Nat → Prop) (P K V N : Nat) (A : LSt) (rows X Y : List (List Int)) (ov vv : Value) (LA LB : List (List Int)) (lv : List Int) (value a b : Value) (Bx : List (Nat × Obj)) : Prop where
  lo : LO w W S P K V N A rows
  rov : RQ w W S ov X
  rvv : RQ w W S vv Y
  ra : RQ w W S a LA
  rb : RQ w W S b LB
  val : RowIn w value lv
  newa : ∀ k, a.ownBlock = some k → W0.heap.size ≤ k
  newb : ∀ k, b.ownBlock = some k → W0.heap.size ≤ k
  ab : ∀ k, a.ownBlock = some k → b.ownBlock ≠ some k
  ovl : ∀ k, ov.ownBlock = some k → k < W0.heap.size
  vvl : ∀ k, vv.ownBlock = some k → k < W0.heap.size
  size : W0.heap.size ≤ W.heap.size
  boxes : BoxesOff S W Bx
  boxl : ∀ p ∈ Bx, p.1 < W0.heap.size
section
variable {w W0 W : World} {S : Nat → Prop} {P K V N : Nat} {A : LSt} {rows X Y : List (List Int)} {ov vv : Value} {LA LB : List (List Int)} {lv : List Int} {value a b : Value} {Bx : List (Nat × Obj)}
theorem InL.start (h1 : LO w W S P K V N A rows) (h2 : RQ w W S ov X) (h3 : RQ w W S vv Y) {vs : List Int} (h4 : RowIn w value vs) (h5 : BoxesOff S W Bx) : InL w W W S P K V N A rows X Y ov vv [] [] vs value (.slice none 0 0) (.slice none 0 0) Bx :=
  ⟨h1, h2, h3, RQ.nil _ _ _, RQ.nil _ _ _, h4, (fun k hk => by cases hk), (fun k hk => by cases hk), (fun k hk => by cases hk), h2.lt, h3.lt, Nat.le_refl _, h5, fun p hp => lt_of (h5 p hp).2⟩
theorem InL.keep {W' : World} (h : InL w W0 W S P K V N A rows X Y ov vv LA LB lv value a b Bx) (hb : But [] W W') : InL w W0 W' S P K V N A rows X Y ov vv LA LB lv value a b Bx :=
  ⟨h.lo.keep hb (by simp), h.rov.keep hb (by simp), h.rvv.keep hb (by simp), h.ra.keep hb (by simp), h.rb.keep hb (by simp), h.val, h.newa, h.newb, h.ab, h.ovl, h.vvl, Nat.le_trans h.size hb.size, h.boxes.keep hb (by simp), h.boxl⟩
theorem InL.setv {v' : Value} {lv' : List Int} (h : InL w W0 W S P K V N A rows X Y ov vv LA LB lv value a b Bx) (hv : RowIn w v' lv') : InL w W0 W S P K V N A rows X Y ov vv LA LB lv' v' a b Bx :=
  ⟨h.lo, h.rov, h.rvv, h.ra, h.rb, hv, h.newa, h.newb, h.ab, h.ovl, h.vvl, h.size, h.boxes, h.boxl⟩
theorem InL.swap (h : InL w W0 W S P K V N A rows X Y ov vv LA LB lv value a b Bx) : InL w W0 W S P K V N A rows X Y ov vv LB LA lv value b a Bx :=
  ⟨h.lo, h.rov, h.rvv, h.rb, h.ra, h.val, h.newb, h.newa, (fun k h1 h2 => h.ab k h2 h1), h.ovl, h.vvl, h.size, h.boxes, h.boxl⟩
theorem InL.app {Wz w7 : World} {v' x : Value} {r : List Int} {vals : List Value} (h : InL w W0 W S P K V N A rows X Y ov vv LA LB lv value a b Bx) (hx : RowIn w x r) (hz : But [] W Wz) (hv : OwnQ W 25 a vals) (hap : Appended Wz w7 25 a v' vals [x]) :
    (∃ a7 c7, v' = .slice a7 (vals.length + 1) c7) ∧ InL w W0 w7 S P K V N A rows X Y ov vv (LA ++ [r]) LB lv value v' b Bx := by
  obtain ⟨h1, ⟨L, hL, hown⟩, h3⟩ := h.ra.app hx (fun b hb => (h.lo.low b hb).2) h.lo.but.size hz (fun vals' ho _ => by rw [own_unique ho hv]; exact hap)
  have hr := h.ra
  obtain ⟨_, _, _, hblk, _⟩ := hr
  obtain ⟨a7, c7, e⟩ := hap.1.form
  refine ⟨⟨a7, c7, by rw [e, List.length_append]; rfl⟩, ⟨h.lo.keep hL (fun y hy => ⟨(hblk y (hown y hy)).2, (hblk y (hown y hy)).1⟩), h.rov.keep hL (fun y hy hm => ?_), h.rvv.keep hL (fun y hy hm => ?_), h1, h.rb.keep hL (fun y hy hm => h.ab y (hown y hm) hy), h.val, (fun k hk => ?_), h.newb, (fun k hk hkb => ?_), h.ovl, h.vvl, Nat.le_trans h.size hL.size, h.boxes.keep hL (fun p hp hm => ?_), h.boxl⟩⟩
  · have h5 := h.newa y (hown y hm)
    have h6 := h.ovl y hy
    omega
  · have h5 := h.newa y (hown y hm)
    have h6 := h.vvl y hy
    omega
  · rcases h3 k hk with h5 | h5
    · exact h.newa k h5
    · exact Nat.le_trans h.size h5
  · rcases h3 k hk with h5 | h5
    · exact h.ab k h5 hkb
    · have := h.rb.lt k hkb
      omega
  · have h5 := h.newa _ (hown _ hm)
    have h6 := h.boxl p hp
    omega
theorem InL.app2 {Wz w7 : World} {v' x : Value} {r : List Int} {vals : List Value} (h : InL w W0 W S P K V N A rows X Y ov vv LA LB lv value a b Bx) (hx : RowIn w x r) (hz : But [] W Wz) (hv : OwnQ W 25 b vals) (hap : Appended Wz w7 25 b v' vals [x]) :
    (∃ a7 c7, v' = .slice a7 (vals.length + 1) c7) ∧ InL w W0 w7 S P K V N A rows X Y ov vv LA (LB ++ [r]) lv value a v' Bx := by
  obtain ⟨h1, h2⟩ := h.swap.app hx hz hv hap
  exact ⟨h1, h2.swap⟩
/-- The next head of the deeds' loop. -/
theorem InL.head (h : InL w W0 W S P K V N A rows X Y ov vv LA LB lv value a b Bx) (hl : LA.length = LB.length) (hz : ZA rows A = LA.zip LB) : LL w W P K V N a b Bx :=
  ⟨⟨S, A, rows, LA, LB, h.lo, h.ra, h.rb, hl, hz, h.ab, h.boxes⟩⟩
end
theorem za_len {rows : List (List Int)} {A : LSt} : (ZA rows A).length = A.length := by simp [ZA]
/-- What a round makes of both. -/
theorem last_del5 {N : Nat} {Z Z' : List (List Int × List Int)} {ks vs : List Int} (h : StepZ N 5 Z ks vs Z') : Z' = (keysB ks Z).zip (valsB ks Z) := by
  rw [h.del rfl]
  exact (zip_parts _).symm
theorem last_more {N : Nat} {q : Int} {Z Z' : List (List Int × List Int)} {ks vs : List Int} (h : StepZ N q Z ks vs Z') (hq : q ≠ 5) (hn : (Z.map (·.1)).Nodup) (hl : Z'.length ≤ N) :
    Z' = if N < (keysB ks Z ++ [ks]).length then ((keysB ks Z ++ [ks]).drop 1).zip ((valsB ks Z ++ [lastV q ks vs Z]).drop 1) else (keysB ks Z ++ [ks]).zip (valsB ks Z ++ [lastV q ks vs Z]) := by
  have e0 : ∀ v : List Int, (keysB ks Z ++ [ks]).zip (valsB ks Z ++ [v]) = but1 ks Z ++ [(ks, v)] := fun v => by
    have := zip_parts (but1 ks Z ++ [(ks, v)])
    rw [List.map_append, List.map_append] at this
    exact this
  have e1 : ∀ v : List Int, ((keysB ks Z ++ [ks]).drop 1).zip ((valsB ks Z ++ [v]).drop 1) = (but1 ks Z ++ [(ks, v)]).drop 1 := fun v => by
    have := zip_parts ((but1 ks Z ++ [(ks, v)]).drop 1)
    rw [List.map_drop, List.map_drop, List.map_append, List.map_append] at this
    exact this
  have el : (keysB ks Z ++ [ks]).length = (but1 ks Z).length + 1 := by simp [keysB]
  by_cases h1 : q ≤ 1
  · obtain ⟨v, ⟨n, hv⟩, e⟩ := h.look h1
    rw [lastV_look h1 vs hn hv, e0, e1, if_neg (by rw [el]; rw [e] at hl; simp at hl; omega), e]
  · rw [lastV_upd (by omega), e0, e1, h.upd (by omega) hq]
    unfold trimZ
    rw [el, List.length_append]
    rfl
theorem app_fits {n : Nat} (h : n ≤ 100) : n + 1 ≤ maxLen ∧ (n + 1) * 24 ≤ 140737488355328 := by
  unfold maxLen
  omega
/-- The next head, without the first of both. -/
theorem InL.headTail {w W0 W : World} {S : Nat → Prop} {P K V N : Nat} {A : LSt} {rows X Y : List (List Int)} {ov vv : Value} {LA LB : List (List Int)} {lv : List Int} {value : Value} {Bx : List (Nat × Obj)} {g o g' o' n c n' c' : Nat} (h : InL w W0 W S P K V N A rows X Y ov vv LA LB lv value (.slice (some ⟨g, o, none⟩) (n + 1) c) (.slice (some ⟨g', o', none⟩) (n' + 1) c') Bx) (hl : LA.length = LB.length) (hz : ZA rows A = (LA.drop 1).zip (LB.drop 1)) :
    LL w W P K V N (.slice (some ⟨g, o + 1, none⟩) n (c - 1)) (.slice (some ⟨g', o' + 1, none⟩) n' (c' - 1)) Bx := by
  have h1 := h.ra
  have h2 := h.rb
  have e1 := h1.len
  have e2 := h2.len
  have hab := h.ab
  cases LA with
  | nil => simp at e1
  | cons y LA =>
    cases LB with
    | nil => simp at e2
    | cons z LB =>
      obtain rfl : LA.length = n := by simpa using e1
      obtain rfl : LB.length = n' := by simpa using e2
      exact ⟨⟨S, A, rows, LA, LB, h.lo, h1.tail, h2.tail, by simpa using hl, hz, hab, h.boxes⟩⟩
theorem RQ.cap {w W : World} {S : Nat → Prop} {oa : Option Addr} {n oc : Nat} {X : List (List Int)} (h : RQ w W S (.slice oa n oc) X) : n ≤ oc ∧ (1 ≤ n → ∃ g o, oa = some ⟨g, o, none⟩) := by
  obtain ⟨vals, h1, h2, _⟩ := h
  have hl := h1.len
  refine ⟨?_, fun h0 => h1.addr h0⟩
  rcases h1 with ⟨e, rfl⟩ | ⟨g, o, cap, cur, e, _, hc, _⟩
  · cases e
    exact Nat.le_refl _
  · cases e
    exact hc
end Go.Proofs.Ytifgfnifadmoaaa.M
