/-
  lru, plain: a lru as it lies; what its functions make of it.
-/
import Derived.Test.YtifgfnifadmoaaaChn
import Derived.Test.YtifgfnifadmoaaaLruA
import Derived.Test.YtifgfnifadmoaaaSame
namespace Go.Proofs.Ytifgfnifadmoaaa.M
open Go.RowKit
set_option linter.unusedVariables false
set_option linter.unusedSectionVars false
set_option linter.unusedSimpArgs false
def u8s (l : List Int) : List Value := l.map (.int .u8)
theorem u8s_len (l : List Int) : (u8s l).length = l.length := by simp [u8s]
theorem u8s_at {l : List Int} {i : Nat} {x : Int} (h : l[i]? = some x) : (u8s l)[i]? = some (.int .u8 x) := by simp [u8s, h]
def ByteL (l : List Int) : Prop := ∀ x ∈ l, 0 ≤ x ∧ x ≤ 255
structure Ent where
  b : Nat
  key : ByteArray
  place : Nat
def bl (E : List Ent) : List Nat := E.map Ent.b
def lp (b : Nat) : Value := .pointer (some ⟨b, 0, none⟩)
def usedB (E : List Ent) (i : Nat) : Bool := E.any fun e => e.place == i
theorem usedB_iff {E : List Ent} {i : Nat} : usedB E i = true ↔ ∃ e ∈ E, e.place = i := by simp [usedB]
def HeadW (w : World) (P M U Rm K V N : Nat) : Prop := ∃ C, w.heap[P]? = some (.cells C 64 (0, 0)) ∧ C.size = 11 ∧ C[1]? = some (.int .i64 K) ∧ C[2]? = some (.int .i64 V) ∧ C[3]? = some (.int .i64 N) ∧ C[8]? = some (.map (some M)) ∧ C[9]? = some (.slice (some ⟨U, 0, none⟩) N N) ∧ C[10]? = some (.slice (some ⟨Rm, 0, none⟩) N N)
def LinkW (w : World) (e : Ent) : Prop := ∃ C, w.heap[e.b]? = some (.cells C 59 (0, 0)) ∧ C.size = 4 ∧ C[0]? = some (.string e.key) ∧ C[1]? = some (.int .i64 e.place)
def MapW (w : World) (M : Nat) (E : List Ent) : Prop := ∃ ps, MapS w M ps ∧ ps.Perm (E.map fun e => (e.key, lp e.b))
def UsedW (w : World) (U N : Nat) (f : Nat → Bool) : Prop := ∃ C, w.heap[U]? = some (.cells C 4 (0, 0)) ∧ C.size = N ∧ ∀ i, i < N → C[i]? = some (.bool (f i))
def RoomW (w : World) (Rm V N : Nat) (g : Nat → Nat) : Prop := ∃ C, w.heap[Rm]? = some (.cells C 25 (0, 0)) ∧ C.size = N ∧ ∀ i, i < N → C[i]? = some (.slice (some ⟨g i, 0, none⟩) V V)
def RowsW (w : World) (V N : Nat) (g : Nat → Nat) (rows : List (List Int)) : Prop := rows.length = N ∧ ∀ (i : Nat) (r : List Int), rows[i]? = some r → w.heap[g i]? = some (.cells (u8s r).toArray 5 (0, 0)) ∧ r.length = V ∧ ByteL r
theorem HeadW.but {w w' : World} {P M U Rm K V N : Nat} {L : List Nat} (h : HeadW w P M U Rm K V N) (hb : But L w w') (hn : P ∉ L) : HeadW w' P M U Rm K V N := by
  obtain ⟨C, h1, h2⟩ := h
  exact ⟨C, hb.heap h1 hn, h2⟩
theorem LinkW.but {w w' : World} {e : Ent} {L : List Nat} (h : LinkW w e) (hb : But L w w') (hn : e.b ∉ L) : LinkW w' e := by
  obtain ⟨C, h1, h2⟩ := h
  exact ⟨C, hb.heap h1 hn, h2⟩
theorem MapW.but {w w' : World} {M : Nat} {E : List Ent} {L : List Nat} (h : MapW w M E) (hb : But L w w') (hn : M ∉ L) : MapW w' M E := by
  obtain ⟨ps, h1, h2⟩ := h
  exact ⟨ps, h1.but hb hn, h2⟩
theorem MapW.perm {w : World} {M : Nat} {E E' : List Ent} (h : MapW w M E) (hp : E.Perm E') : MapW w M E' := by
  obtain ⟨ps, h1, h2⟩ := h
  exact ⟨ps, h1, h2.trans (hp.map _)⟩
theorem UsedW.but {w w' : World} {U N : Nat} {f : Nat → Bool} {L : List Nat} (h : UsedW w U N f) (hb : But L w w') (hn : U ∉ L) : UsedW w' U N f := by
  obtain ⟨C, h1, h2⟩ := h
  exact ⟨C, hb.heap h1 hn, h2⟩
theorem UsedW.set {w : World} {U N : Nat} {f : Nat → Bool} (h : UsedW w U N f) (p : Nat) (b : Bool) : UsedW (w.setCell ⟨U, p, none⟩ (.bool b)) U N (fun i => if i = p then b else f i) := by
  obtain ⟨C, h1, h2, h3⟩ := h
  refine ⟨_, heap_setC h1, by simp [h2], fun i hi => ?_⟩
  show _ = some (Value.bool (if i = p then b else f i))
  by_cases e : i = p
  · subst e
    rw [if_pos rfl]
    simp [h2, hi]
  · rw [if_neg e, ← h3 i hi]
    simp [Array.getElem?_setIfInBounds_ne (Ne.symm e)]
theorem UsedW.congr {w : World} {U N : Nat} {f f' : Nat → Bool} (h : UsedW w U N f) (he : ∀ i, i < N → f i = f' i) : UsedW w U N f' := by
  obtain ⟨C, h1, h2, h3⟩ := h
  exact ⟨C, h1, h2, fun i hi => by rw [h3 i hi, he i hi]⟩
theorem RoomW.but {w w' : World} {Rm V N : Nat} {g : Nat → Nat} {L : List Nat} (h : RoomW w Rm V N g) (hb : But L w w') (hn : Rm ∉ L) : RoomW w' Rm V N g := by
  obtain ⟨C, h1, h2⟩ := h
  exact ⟨C, hb.heap h1 hn, h2⟩
theorem RowsW.but {w w' : World} {V N : Nat} {g : Nat → Nat} {rows : List (List Int)} {L : List Nat} (h : RowsW w V N g rows) (hb : But L w w') (hn : ∀ i, i < N → g i ∉ L) : RowsW w' V N g rows :=
  ⟨h.1, fun i r hr => ⟨hb.heap (h.2 i r hr).1 (hn i (by rw [← h.1]; exact (List.getElem?_eq_some_iff.1 hr).1)), (h.2 i r hr).2⟩⟩
/-- A lru. -/
structure LruW (w : World) (P M U Rm : Nat) (g : Nat → Nat) (K V N : Nat) (E : List Ent) (rows : List (List Int)) : Prop where
  head : HeadW w P M U Rm K V N
  chain : Chain w P (bl E)
  link : ∀ e ∈ E, LinkW w e
  map : MapW w M E
  used : UsedW w U N (usedB E)
  room : RoomW w Rm V N g
  rowsw : RowsW w V N g rows
  ginj : ∀ i j, i < N → j < N → g i = g j → i = j
  keys : (E.map Ent.key).Nodup ∧ ∀ e ∈ E, e.key.size = K
  places : (E.map Ent.place).Nodup ∧ ∀ e ∈ E, e.place < N
  bounds : 1 ≤ N ∧ N ≤ 1048576 ∧ K ≤ 1048576 ∧ V ≤ 1048576
/-- Its blocks. -/
def ownL (P M U Rm : Nat) (g : Nat → Nat) (N : Nat) (E : List Ent) : List Nat := P :: M :: U :: Rm :: (bl E ++ (List.range N).map g)
section
variable {w : World} {P M U Rm : Nat} {g : Nat → Nat} {K V N : Nat} {E : List Ent} {rows : List (List Int)}
theorem ne_type {a b : Nat} {C D : Array Value} {S T : TypeId} {f q : Nat × Nat} (h1 : w.heap[a]? = some (.cells C S f)) (h2 : w.heap[b]? = some (.cells D T q)) (hne : S ≠ T) : a ≠ b := fun e => by
  subst e
  rw [h1] at h2
  simp only [Option.some.injEq, Obj.cells.injEq] at h2
  exact hne h2.2.1
theorem ne_map {a b : Nat} {C : Array Value} {S : TypeId} {f : Nat × Nat} {es : Array MapEntry} {clock : Nat} (h1 : w.heap[a]? = some (.cells C S f)) (h2 : w.heap[b]? = some (.map es clock)) : a ≠ b := fun e => by
  subst e
  rw [h1] at h2
  cases h2
theorem LruW.gAt (h : LruW w P M U Rm g K V N E rows) {i : Nat} (hi : i < N) : ∃ r, rows[i]? = some r ∧ w.heap[g i]? = some (.cells (u8s r).toArray 5 (0, 0)) ∧ r.length = V ∧ ByteL r := by
  obtain ⟨r, hr⟩ : ∃ r, rows[i]? = some r := ⟨_, List.getElem?_eq_getElem (by rw [h.rowsw.1]; exact hi)⟩
  exact ⟨r, hr, h.rowsw.2 i r hr⟩
/-- All its blocks lie apart. -/
structure Apart4 (P M U Rm : Nat) (g : Nat → Nat) (N : Nat) (E : List Ent) : Prop where
  pm : P ≠ M
  pu : P ≠ U
  pr : P ≠ Rm
  pe : P ∉ bl E
  pg : ∀ i, i < N → P ≠ g i
  mu : M ≠ U
  mr : M ≠ Rm
  me : M ∉ bl E
  mg : ∀ i, i < N → M ≠ g i
  ur : U ≠ Rm
  ue : U ∉ bl E
  ug : ∀ i, i < N → U ≠ g i
  re : Rm ∉ bl E
  rg : ∀ i, i < N → Rm ≠ g i
  eg : ∀ i, i < N → g i ∉ bl E
theorem mem_bl {x : Nat} {E : List Ent} : x ∈ bl E ↔ ∃ e ∈ E, e.b = x := by simp [bl]
theorem LruW.apart (h : LruW w P M U Rm g K V N E rows) : Apart4 P M U Rm g N E := by
  obtain ⟨C, hP, _⟩ := h.head
  obtain ⟨ps, hM, _⟩ := h.map
  obtain ⟨es, clock, hM⟩ := hM.is
  obtain ⟨D, hU, _⟩ := h.used
  obtain ⟨F, hR, _⟩ := h.room
  have hE : ∀ x, x ∈ bl E → ∃ C, w.heap[x]? = some (.cells C 59 (0, 0)) := fun x hx => by
    obtain ⟨e, he, rfl⟩ := mem_bl.1 hx
    obtain ⟨C, h1, _⟩ := h.link e he
    exact ⟨C, h1⟩
  have hG : ∀ i, i < N → ∃ C, w.heap[g i]? = some (.cells C 5 (0, 0)) := fun i hi => by
    obtain ⟨r, _, h1, _⟩ := h.gAt hi
    exact ⟨_, h1⟩
  refine ⟨ne_map hP hM, ne_type hP hU (by decide), ne_type hP hR (by decide), fun hx => ?_, fun i hi => ?_, (ne_map hU hM).symm, (ne_map hR hM).symm, fun hx => ?_, fun i hi => ?_, ne_type hU hR (by decide), fun hx => ?_, fun i hi => ?_, fun hx => ?_, fun i hi => ?_, fun i hi hx => ?_⟩
  · obtain ⟨C, h1⟩ := hE _ hx; exact ne_type hP h1 (by decide) rfl
  · obtain ⟨C, h1⟩ := hG i hi; exact ne_type hP h1 (by decide)
  · obtain ⟨C, h1⟩ := hE _ hx; exact ne_map h1 hM rfl
  · obtain ⟨C, h1⟩ := hG i hi; exact (ne_map h1 hM).symm
  · obtain ⟨C, h1⟩ := hE _ hx; exact ne_type hU h1 (by decide) rfl
  · obtain ⟨C, h1⟩ := hG i hi; exact ne_type hU h1 (by decide)
  · obtain ⟨C, h1⟩ := hE _ hx; exact ne_type hR h1 (by decide) rfl
  · obtain ⟨C, h1⟩ := hG i hi; exact ne_type hR h1 (by decide)
  · obtain ⟨C, h1⟩ := hE _ hx
    obtain ⟨D, h2⟩ := hG i hi
    exact ne_type h1 h2 (by decide) rfl
theorem LruW.but (h : LruW w P M U Rm g K V N E rows) {w' : World} {L : List Nat} (hb : But L w w') (hL : ∀ x ∈ ownL P M U Rm g N E, x ∉ L) : LruW w' P M U Rm g K V N E rows where
  head := h.head.but hb (hL P (by simp [ownL]))
  chain := h.chain.but hb (hL P (by simp [ownL])) (fun x hx => hL x (by simp [ownL, hx]))
  link := fun e he => (h.link e he).but hb (hL e.b (by simp only [ownL, List.mem_cons, List.mem_append]; exact .inr (.inr (.inr (.inr (.inl (mem_bl.2 ⟨e, he, rfl⟩)))))))
  map := h.map.but hb (hL M (by simp [ownL]))
  used := h.used.but hb (hL U (by simp [ownL]))
  room := h.room.but hb (hL Rm (by simp [ownL]))
  rowsw := h.rowsw.but hb (fun i hi => hL (g i) (by simp only [ownL, List.mem_cons, List.mem_append, List.mem_map, List.mem_range]; exact .inr (.inr (.inr (.inr (.inr ⟨i, hi, rfl⟩))))))
  ginj := h.ginj
  keys := h.keys
  places := h.places
  bounds := h.bounds
theorem LruW.lt (h : LruW w P M U Rm g K V N E rows) : ∀ x ∈ ownL P M U Rm g N E, x < w.heap.size := fun x hx => by
  simp only [ownL, List.mem_cons, List.mem_append, List.mem_map, List.mem_range] at hx
  rcases hx with rfl | rfl | rfl | rfl | hx | ⟨i, hi, rfl⟩
  · obtain ⟨C, h1, _⟩ := h.head; exact lt_of h1
  · obtain ⟨ps, h1, _⟩ := h.map; exact h1.lt
  · obtain ⟨C, h1, _⟩ := h.used; exact lt_of h1
  · obtain ⟨C, h1, _⟩ := h.room; exact lt_of h1
  · obtain ⟨e, he, rfl⟩ := mem_bl.1 hx
    obtain ⟨C, h1, _⟩ := h.link e he
    exact lt_of h1
  · obtain ⟨r, _, h1, _⟩ := h.gAt hi; exact lt_of h1
end
/-! ### Only the ring turns. -/
def RingU (P : Nat) (L : List Nat) (w w' : World) : Prop := But L w w' ∧ ∀ (b : Nat) (C : Array Value) (T : TypeId), w.heap[b]? = some (.cells C T (0, 0)) → ∃ C', w'.heap[b]? = some (.cells C' T (0, 0)) ∧ C'.size = C.size ∧ ∀ o, ((b = P ∧ o ≠ 6 ∧ o ≠ 7) ∨ (b ≠ P ∧ o ≠ 2 ∧ o ≠ 3)) → C'[o]? = C[o]?
theorem RingU.refl (P : Nat) (L : List Nat) (w : World) : RingU P L w w := ⟨But.refl _ _, fun b C T h => ⟨C, h, rfl, fun _ _ => rfl⟩⟩
theorem RingU.trans {P : Nat} {L : List Nat} {a b c : World} (h : RingU P L a b) (k : RingU P L b c) : RingU P L a c :=
  ⟨h.1.trans k.1 (fun x hx => .inl hx), fun x C T hx => by
    obtain ⟨C1, h1, h2, h3⟩ := h.2 x C T hx
    obtain ⟨C2, k1, k2, k3⟩ := k.2 x C1 T h1
    exact ⟨C2, k1, by rw [k2, h2], fun o ho => by rw [k3 o ho, h3 o ho]⟩⟩
theorem RingU.drew {P : Nat} {L : List Nat} {a b : World} (h : RingU P L a b) : RingU P L a b.drew := ⟨h.1.drew, h.2⟩
theorem RingU.mono {P : Nat} {L L' : List Nat} {a b : World} (h : RingU P L a b) (hL : ∀ x ∈ L, x ∈ L') : RingU P L' a b := ⟨h.1.mono hL, h.2⟩
theorem RingU.set {P : Nat} {L : List Nat} {w w' : World} (h : RingU P L w w') (b o : Nat) (v : Value) (hb : b ∈ L) (ho : (b = P ∧ (o = 6 ∨ o = 7)) ∨ (b ≠ P ∧ (o = 2 ∨ o = 3))) : RingU P L w (w'.setCell ⟨b, o, none⟩ v) := by
  refine h.trans ⟨(But.refl _ _).setCell (.inl hb) _, fun x C T hx => ?_⟩
  by_cases e : x = b
  · subst e
    refine ⟨_, heap_setC hx, by simp, fun o' ho' => ?_⟩
    have : o ≠ o' := by omega
    simp [Array.getElem?_setIfInBounds_ne this]
  · exact ⟨C, by rw [heap_setN (Ne.symm e)]; exact hx, rfl, fun _ _ => rfl⟩
theorem RingU.node {P : Nat} {l L : List Nat} {w w' : World} (h : RingU P L w w') (hP : P ∉ l) (hL : ∀ x ∈ P :: l, x ∈ L) (i q : Nat) (hq : q = 2 ∨ q = 3) (v : Value) : RingU P L w (w'.setCell ⟨(nd P l i).1, (nd P l i).2 + q, none⟩ v) := by
  unfold nd
  split
  · have hm := getD_mem (l := l) (i := i - 1) (by omega)
    exact h.set _ _ v (hL _ (List.mem_cons_of_mem _ hm)) (.inr ⟨fun e => hP (e ▸ hm), by simp only; omega⟩)
  · exact h.set _ _ v (hL _ List.mem_cons_self) (.inl ⟨rfl, by simp only; omega⟩)
theorem HeadW.ring {w w' : World} {P M U Rm K V N : Nat} {L : List Nat} (h : HeadW w P M U Rm K V N) (hr : RingU P L w w') : HeadW w' P M U Rm K V N := by
  obtain ⟨C, h1, h2, k1, k2, k3, k8, k9, k10⟩ := h
  obtain ⟨C', h3, h4, h5⟩ := hr.2 P C _ h1
  exact ⟨C', h3, by rw [h4, h2], by rw [h5 1 (.inl ⟨rfl, by omega, by omega⟩), k1], by rw [h5 2 (.inl ⟨rfl, by omega, by omega⟩), k2], by rw [h5 3 (.inl ⟨rfl, by omega, by omega⟩), k3], by rw [h5 8 (.inl ⟨rfl, by omega, by omega⟩), k8], by rw [h5 9 (.inl ⟨rfl, by omega, by omega⟩), k9], by rw [h5 10 (.inl ⟨rfl, by omega, by omega⟩), k10]⟩
theorem LinkW.ring {w w' : World} {e : Ent} {P : Nat} {L : List Nat} (h : LinkW w e) (hr : RingU P L w w') (hne : e.b ≠ P) : LinkW w' e := by
  obtain ⟨C, h1, h2, k0, k1⟩ := h
  obtain ⟨C', h3, h4, h5⟩ := hr.2 e.b C _ h1
  exact ⟨C', h3, by rw [h4, h2], by rw [h5 0 (.inr ⟨hne, by omega, by omega⟩), k0], by rw [h5 1 (.inr ⟨hne, by omega, by omega⟩), k1]⟩
section
variable {w : World} {P M U Rm : Nat} {g : Nat → Nat} {K V N : Nat} {E : List Ent} {rows : List (List Int)}
/-- The links are linked anew. -/
theorem LruW.relink (h : LruW w P M U Rm g K V N E rows) {w' : World} {E' : List Ent} (hp : E.Perm E') (hr : RingU P (P :: bl E) w w') (hc : Chain w' P (bl E')) : LruW w' P M U Rm g K V N E' rows where
  head := h.head.ring hr
  chain := hc
  link := fun e he => (h.link e (hp.mem_iff.2 he)).ring hr (fun x => h.apart.pe (mem_bl.2 ⟨e, hp.mem_iff.2 he, x⟩))
  map := (h.map.but hr.1 (by have := h.apart; simp only [List.mem_cons]; rintro (x | x); exact this.pm x.symm; exact this.me x)).perm hp
  used := (h.used.but hr.1 (by have := h.apart; simp only [List.mem_cons]; rintro (x | x); exact this.pu x.symm; exact this.ue x)).congr (fun i _ => by
    rw [Bool.eq_iff_iff, usedB_iff, usedB_iff]
    exact ⟨fun ⟨e, he, x⟩ => ⟨e, hp.mem_iff.1 he, x⟩, fun ⟨e, he, x⟩ => ⟨e, hp.mem_iff.2 he, x⟩⟩)
  room := h.room.but hr.1 (by have := h.apart; simp only [List.mem_cons]; rintro (x | x); exact this.pr x.symm; exact this.re x)
  rowsw := h.rowsw.but hr.1 (fun i hi => by have := h.apart; simp only [List.mem_cons]; rintro (x | x); exact this.pg i hi x.symm; exact this.eg i hi x)
  ginj := h.ginj
  keys := ⟨(hp.map Ent.key).nodup_iff.1 h.keys.1, fun e he => h.keys.2 e (hp.mem_iff.2 he)⟩
  places := ⟨(hp.map Ent.place).nodup_iff.1 h.places.1, fun e he => h.places.2 e (hp.mem_iff.2 he)⟩
  bounds := h.bounds
end
end Go.Proofs.Ytifgfnifadmoaaa.M
