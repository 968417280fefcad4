/-
  lru: free (printed by mklrufree.py).
-/
import Derived.Test.YtifgfnifadmoaaaAll
namespace Go.Proofs.Ytifgfnifadmoaaa.M
open Go.RowKit Go.Shelf
set_option linter.unusedVariables false
set_option linter.unusedSectionVars false
set_option linter.unusedSimpArgs false
attribute [local go_sem] Oper.semAt_some
section
variable {P : Program}
theorem calls_round {l n : Nat} {f : FuncId} {args : Array Value} {w : World} {R : Ending → World → Prop} (h : Calls P f args w R) : CallsIn (Fence.wide.inRound l) n P f args w R :=
  show CallsIn Fence.wide n P f args w R from callsIn_wide.2 h
end
theorem pigeon : ∀ (N : Nat) (l : List Nat), (∀ j, j < N → j ∈ l) → N ≤ l.length
  | 0, _, _ => Nat.zero_le _
  | N + 1, l, h => by
    have h1 := pigeon N (l.filter (· ≠ N)) (fun j hj => List.mem_filter.2 ⟨h j (by omega), by simp; omega⟩)
    have h2 : (l.filter (· ≠ N)).length < l.length := List.length_filter_lt_length_iff_exists.2 ⟨N, h N (by omega), by simp⟩
    omega
theorem nodup_below : ∀ (N : Nat) (l : List Nat), l.Nodup → (∀ x ∈ l, x < N) → l.length ≤ N
  | 0, l, _, h => by
    cases l with
    | nil => exact Nat.le_refl _
    | cons x l => exact absurd (h x List.mem_cons_self) (by omega)
  | N + 1, l, hn, h => by
    have h1 := nodup_below N (l.erase N) (hn.erase N) (fun x hx => by
      have h2 := (List.Nodup.mem_erase_iff hn).1 hx
      have := h x h2.2
      have := h2.1
      omega)
    by_cases hm : N ∈ l
    · rw [List.length_erase_of_mem hm] at h1
      omega
    · rw [List.erase_of_not_mem hm] at h1
      omega
theorem free_nums {k p N : Nat} (hk : k ≤ p) (hp : p < N) (hN : N ≤ 1048576) : k < N ∧ (k : Int) < N ∧ wrap64 ((k : Int) + 1) = (k : Int) + 1 := by
  refine ⟨by omega, by omega, ?_⟩
  rw [wrap64]
  omega
theorem free_meas {k N : Nat} (h : k < N) (hw : wrap64 ((k : Int) + 1) = (k : Int) + 1) : N - (intOf (Value.int .i64 (wrap64 ((k : Int) + 1)))).toNat < N - (intOf (Value.int .i64 (k : Int))).toNat := by
  rw [hw]
  simp [intOf]
  omega
theorem least : ∀ (N : Nat) (f : Nat → Bool), (∃ p, p < N ∧ f p = false) → ∃ p, p < N ∧ f p = false ∧ ∀ j, j < p → f j = true
  | 0, _, h => by obtain ⟨p, hp, _⟩ := h; omega
  | N + 1, f, h => by
    by_cases h1 : ∃ p, p < N ∧ f p = false
    · obtain ⟨p, hp, h2⟩ := least N f h1
      exact ⟨p, by omega, h2⟩
    · obtain ⟨p, hp, h2⟩ := h
      have h3 : ∀ j, j < N → f j = true := fun j hj => by
        cases h4 : f j with
        | true => rfl
        | false => exact absurd ⟨j, hj, h4⟩ h1
      have : p = N := by
        apply Classical.byContradiction
        intro hne
        rw [h3 p (by omega)] at h2
        cases h2
      subst this
      exact ⟨p, hp, h2, h3⟩
/-- The least free place. -/
def Least (E : List Ent) (N p : Nat) : Prop := p < N ∧ usedB E p = false ∧ ∀ j, j < p → usedB E j = true
theorem least_ex {E : List Ent} {N : Nat} (h : E.length < N) : ∃ p, Least E N p := by
  refine least N (usedB E) (Classical.byContradiction fun hn => ?_)
  have h1 := pigeon N (E.map Ent.place) (fun j hj => by
    cases hu : usedB E j with
    | true =>
      obtain ⟨e, he, rfl⟩ := usedB_iff.1 hu
      exact List.mem_map.2 ⟨e, he, rfl⟩
    | false => exact absurd ⟨j, hj, hu⟩ hn)
  rw [List.length_map] at h1
  omega
theorem Least.unique {E : List Ent} {N p q : Nat} (h : Least E N p) (k : Least E N q) : p = q := by
  rcases Nat.lt_trichotomy p q with hl | hl | hl
  · have := k.2.2 p hl
    rw [h.2.1] at this; cases this
  · exact hl
  · have := h.2.2 q hl
    rw [k.2.1] at this; cases this
/-- What is there when a place is wanted. -/
def roomy (E : List Ent) (N : Nat) : List Ent := if E.length = N then E.eraseIdx 0 else E
section
variable {w : World} {P M U Rm : Nat} {g : Nat → Nat} {K V N : Nat} {E : List Ent} {rows : List (List Int)}
theorem LruW.few (h : LruW w P M U Rm g K V N E rows) : E.length ≤ N := by
  have hp := h.places
  have h3 := nodup_below N (E.map Ent.place) hp.1 (fun x hx => by
    obtain ⟨e, he, rfl⟩ := List.mem_map.1 hx
    exact hp.2 e he)
  rwa [List.length_map] at h3
theorem LruW.mlen (h : LruW w P M U Rm g K V N E rows) (ty : TypeId) : (Builtin.len_ #[62] ty #[.map (some M)]).run Try.prog w = .ok (.int .i64 (E.length : Int)) w := by
  obtain ⟨ps, hm, hp⟩ := h.map
  have := mapS_len (P := Try.prog) (t := 62) (ty := ty) (by kernel_rfl) hm
  rw [this, hp.length_eq, List.length_map]
  rfl
theorem LruW.h8 (h : LruW w P M U Rm g K V N E rows) : w.cell? ⟨P, 8, none⟩ = some (.map (some M)) := by
  obtain ⟨C, k, _, _, _, _, k8, _⟩ := h.head
  rw [cl_of k]; exact k8
theorem LruW.h1 (h : LruW w P M U Rm g K V N E rows) : w.cell? ⟨P, 1, none⟩ = some (.int .i64 K) := by
  obtain ⟨C, k, _, k1, _⟩ := h.head
  rw [cl_of k]; exact k1
theorem LruW.h2 (h : LruW w P M U Rm g K V N E rows) : w.cell? ⟨P, 2, none⟩ = some (.int .i64 V) := by
  obtain ⟨C, k, _, _, k2, _⟩ := h.head
  rw [cl_of k]; exact k2
theorem LruW.h3 (h : LruW w P M U Rm g K V N E rows) : w.cell? ⟨P, 3, none⟩ = some (.int .i64 N) := by
  obtain ⟨C, k, _, _, _, k3, _⟩ := h.head
  rw [cl_of k]; exact k3
theorem LruW.h9 (h : LruW w P M U Rm g K V N E rows) : w.cell? ⟨P, 9, none⟩ = some (.slice (some ⟨U, 0, none⟩) N N) := by
  obtain ⟨C, k, _, _, _, _, _, k9, _⟩ := h.head
  rw [cl_of k]; exact k9
theorem LruW.h10 (h : LruW w P M U Rm g K V N E rows) : w.cell? ⟨P, 10, none⟩ = some (.slice (some ⟨Rm, 0, none⟩) N N) := by
  obtain ⟨C, k, _, _, _, _, _, _, k10⟩ := h.head
  rw [cl_of k]; exact k10
theorem LruW.u (h : LruW w P M U Rm g K V N E rows) {i : Nat} (hi : i < N) : w.cell? ⟨U, i, none⟩ = some (.bool (usedB E i)) := by
  obtain ⟨C, k, _, k1⟩ := h.used
  rw [cl_of k]; exact k1 i hi
theorem LruW.new (h : LruW w P M U Rm g K V N E rows) {w' : World} (hb : But [] w w') : LruW w' P M U Rm g K V N E rows := h.but hb (by simp)
end
set_option maxRecDepth 100000 in
set_option maxHeartbeats 4000000 in
theorem free_no {w : World} {P M U Rm : Nat} {g : Nat → Nat} {K V N : Nat} {E : List Ent} {rows : List (List Int)} (h : LruW w P M U Rm g K V N E rows) (hl : E.length < N) :
    Calls Try.prog 34 #[.pointer (some ⟨P, 0, none⟩)] w fun e w' => ∃ p : Nat, e = .returned (.int .i64 p) ∧ Least E N p ∧ But [] w w' := by
  obtain ⟨p, hp⟩ := least_ex hl
  have HL := Lib.hid hp
  have HH := Lib.hid h
  have hb1 : But [] w (w.alloc (.cells #[.pointer (some ⟨P, 0, none⟩)] 29)).drew := ((But.refl [] w).alloc _).drew
  have HH1 := Lib.hid (h.new hb1)
  have a8 := (h.new ((But.refl [] w).alloc (.cells #[.pointer (some ⟨P, 0, none⟩)] 29))).h8
  have a3 := (h.new ((But.refl [] w).alloc (.cells #[.pointer (some ⟨P, 0, none⟩)] 29))).h3
  have hml := HH1.out.mlen 3
  have hne : ((E.length : Int) == (N : Int)) = false := by simpa using fun e => by omega
  have HP : Hid (∃ p' : Nat, Ending.returned (Value.int .i64 p) = .returned (.int .i64 p') ∧ Least E N p' ∧ But [] w (w.alloc (.cells #[.pointer (some ⟨P, 0, none⟩)] 29)).drew) := Lib.hid ⟨p, rfl, hp, hb1⟩
  clear h hl hp hb1
  go_enter Try.func34, Try.ntmps34
  go_upto_region 1 with fail
  refine wp_region_tail9 10 (by kernel_rfl) (by kernel_rfl) ?_
  simp only [List.take_succ_cons, List.take_zero, List.drop_succ_cons, List.drop_zero]
  repeat still_step
  refine wpStill_nil ?_
  clear hml a8 a3
  have a9 := HH1.out.h9
  go_wp2_with fail
  go_loop [30] (fun i => ∃ k : Nat, k ≤ p ∧ i = .int .i64 k) (fun i => N - (intOf i).toNat)
  case atStart => exact ⟨0, Nat.zero_le _, rfl⟩
  case round =>
    obtain ⟨k, hk, rfl⟩ := hrel
    have hk0 : (0 : Int) ≤ k := by omega
    obtain ⟨hkN, hk1, hw1⟩ := free_nums hk HL.out.1 HH.out.bounds.2.1
    have cu := HH1.out.u hkN
    by_cases hlt : k < p
    · rw [HL.out.2.2 k hlt] at cu
      have HLT := Lib.hid hlt
      have HKN := Lib.hid hkN
      have HW1 := Lib.hid hw1
      clear hlt hkN
      go_wp2_with fail
      go_round
      case rel => exact ⟨k + 1, HLT.out, by go_num⟩
      case measure => exact free_meas HKN.out HW1.out
    · obtain rfl : k = p := by omega
      rw [HL.out.2.1] at cu
      clear hlt hkN
      go_wp2_with fail
      go_ret
      exact HP.out
/-- What stands before the range's body, and behind it. -/
structure FrI (w : World) (P M U Rm : Nat) (g : Nat → Nat) (K V N : Nat) (E : List Ent) (rows : List (List Int)) (pre : List Nat) (W : World) : Prop where
  nil : pre = []
  lru : LruW W P M U Rm g K V N E rows
  box : W.heap[w.heap.size]? = some (.cells #[.pointer (some ⟨P, 0, none⟩)] 29)
  but : But [] w W
structure FrX (w : World) (P M U Rm : Nat) (g : Nat → Nat) (K V N : Nat) (E : List Ent) (rows : List (List Int)) (pre : List Nat) (W : World) : Prop where
  one : ∃ (k : Nat) (e : Ent), E[k]? = some e ∧ pre = [e.b] ∧ LruW W P M U Rm g K V N (E.eraseIdx k) rows
  box : W.heap[w.heap.size]? = some (.cells #[.pointer (some ⟨P, 0, none⟩)] 29)
  but : But (P :: M :: U :: bl E) w W
theorem own_cells {w : World} {P M U Rm : Nat} {g : Nat → Nat} {K V N : Nat} {E : List Ent} {rows : List (List Int)} (h : LruW w P M U Rm g K V N E rows) : ∀ x ∈ ownL P M U Rm g N E, ∃ o : Obj, w.heap[x]? = some o ∧ (o.isCells = true ∨ x = M) := fun x hx => by
  simp only [ownL, List.mem_cons, List.mem_append, List.mem_map, List.mem_range] at hx
  rcases hx with rfl | rfl | rfl | rfl | hx | ⟨i, hi, rfl⟩
  · obtain ⟨C, h1, _⟩ := h.head; exact ⟨_, h1, .inl rfl⟩
  · obtain ⟨ps, h1, _⟩ := h.map
    obtain ⟨es, clock, h2⟩ := h1.is
    exact ⟨_, h2, .inr rfl⟩
  · obtain ⟨C, h1, _⟩ := h.used; exact ⟨_, h1, .inl rfl⟩
  · obtain ⟨C, h1, _⟩ := h.room; exact ⟨_, h1, .inl rfl⟩
  · obtain ⟨e, he, rfl⟩ := mem_bl.1 hx
    obtain ⟨C, h1, _⟩ := h.link e he
    exact ⟨_, h1, .inl rfl⟩
  · obtain ⟨r, _, h1, _⟩ := h.gAt hi; exact ⟨_, h1, .inl rfl⟩
/-- Blocks of a lru lie below a world's end. -/
def OwnBelow (B : Nat) (P M U Rm : Nat) (g : Nat → Nat) (N : Nat) (E : List Ent) : Prop := ∀ x ∈ ownL P M U Rm g N E, x < B
theorem FrI.abides (w : World) (P M U Rm : Nat) (g : Nat → Nat) (K V N : Nat) (E : List Ent) (rows : List (List Int)) (B : Nat) (hB : OwnBelow B P M U Rm g N E) (hw : w.heap.size < B) : Abides B (FrI w P M U Rm g K V N E rows) := Abides.of_but fun pre V' W L h hb hL =>
  ⟨h.nil, h.lru.but hb (fun x hx hm => by have := (hL x hm).1; have := hB x hx; omega), hb.heap h.box (fun hm => by have := (hL _ hm).1; omega), h.but.trans hb (fun x hx => .inr (by have := (hL x hx).1; omega))⟩
theorem own_erase {P M U Rm : Nat} {g : Nat → Nat} {N : Nat} {E : List Ent} {k x : Nat} (hx : x ∈ ownL P M U Rm g N (E.eraseIdx k)) : x ∈ ownL P M U Rm g N E := by
  simp only [ownL, List.mem_cons, List.mem_append] at hx ⊢
  rcases hx with hx | hx | hx | hx | hx | hx
  · exact .inl hx
  · exact .inr (.inl hx)
  · exact .inr (.inr (.inl hx))
  · exact .inr (.inr (.inr (.inl hx)))
  · exact .inr (.inr (.inr (.inr (.inl (by rw [bl_erase] at hx; exact List.mem_of_mem_eraseIdx hx)))))
  · exact .inr (.inr (.inr (.inr (.inr hx))))
theorem FrX.abides (w : World) (P M U Rm : Nat) (g : Nat → Nat) (K V N : Nat) (E : List Ent) (rows : List (List Int)) (B : Nat) (hB : OwnBelow B P M U Rm g N E) (hw : w.heap.size < B) (c : Code) : Abides B (fun pre W => c = .exit 0 ∧ FrX w P M U Rm g K V N E rows pre W) := Abides.of_but fun pre V' W L ⟨hc, h⟩ hb hL => ⟨hc, by
  obtain ⟨k, e, h1, h2, h3⟩ := h.one
  refine ⟨⟨k, e, h1, h2, h3.but hb (fun x hx hm => ?_)⟩, hb.heap h.box (fun hm => by have := (hL _ hm).1; omega), h.but.trans hb (fun x hx => .inr (by have := (hL x hx).1; omega))⟩
  have h4 := (hL x hm).1
  have h5 := hB x (own_erase hx)
  omega⟩
theorem bl_mem {E : List Ent} {x : Nat} (h : x ∈ bl E) : ∃ (k : Nat) (e : Ent), E[k]? = some e ∧ e.b = x := by
  obtain ⟨e, he, rfl⟩ := mem_bl.1 h
  obtain ⟨k, hk⟩ := List.mem_iff_getElem?.1 he
  exact ⟨k, e, hk, rfl⟩
theorem first_is {E : List Ent} {k : Nat} {e : Ent} (hn : (bl E).Nodup) (hk : E[k]? = some e) (hp : [e.b] <+: bl E) : k = 0 := by
  obtain ⟨t, ht⟩ := hp
  have h1 : (bl E).getD 0 0 = e.b := by rw [← ht]; rfl
  have hl : 0 < (bl E).length := by rw [← ht]; simp
  have h2 : (bl E).getD k 0 = e.b := bl_get hk
  exact getD_inj hn (by rw [bl_len]; exact (List.getElem?_eq_some_iff.1 hk).1) hl (by rw [h2, h1])
def SameW (W wr : World) : Prop := wr = W
set_option maxRecDepth 100000 in
set_option maxHeartbeats 8000000 in
theorem free_full {w : World} {P M U Rm : Nat} {g : Nat → Nat} {K V N : Nat} {E : List Ent} {rows : List (List Int)} (h : LruW w P M U Rm g K V N E rows) (hl : E.length = N) :
    CallsIn Fence.wide 3 Try.prog 34 #[.pointer (some ⟨P, 0, none⟩)] w fun e w' => ∃ p : Nat, e = .returned (.int .i64 p) ∧ Least (E.eraseIdx 0) N p ∧ LruW w' P M U Rm g K V N (E.eraseIdx 0) rows ∧ But (P :: M :: U :: bl E) w w' := by
  obtain ⟨p, hp⟩ := least_ex (E := E.eraseIdx 0) (N := N) (by have := h.bounds.1; rw [List.length_eraseIdx]; split <;> omega)
  have HL := Lib.hid hp
  have HH := Lib.hid h
  have HW0 := Lib.hid h.lt
  have hb1 : But [] w (w.alloc (.cells #[.pointer (some ⟨P, 0, none⟩)] 29)).drew := ((But.refl [] w).alloc _).drew
  have HH1 := Lib.hid (h.new hb1)
  have a8 := (h.new ((But.refl [] w).alloc (.cells #[.pointer (some ⟨P, 0, none⟩)] 29))).h8
  have a3 := (h.new ((But.refl [] w).alloc (.cells #[.pointer (some ⟨P, 0, none⟩)] 29))).h3
  have hml := HH1.out.mlen 3
  rw [hl] at hml
  have HLN := Lib.hid hl
  clear h hl hp hb1
  refine callsIn_of_wp_marks Try.func34 rfl trivial ?_ rfl
  simp only [Try.ntmps34, List.size_toArray, List.length_cons, List.length_nil, Nat.reduceAdd, Nat.reduceSub, Array.replicate_succ, Array.replicate_zero, List.push_toArray, List.append_toArray, List.nil_append, List.cons_append]
  gi_wp2
  refine wpIn_wide.2 ?_
  refine wp_region_tail9 10 (by kernel_rfl) (by kernel_rfl) ?_
  simp only [List.take_succ_cons, List.take_zero, List.drop_succ_cons, List.drop_zero]
  repeat still_step
  refine wpStill_nil ?_
  clear hml a8 a3
  go_wp2_with fail
  gi_wp2
  refine ⟨trivial, ?_⟩
  refine (callsIn_wide.2 (all_c P _)).mono ?_
  have hsz : ((w.alloc (.cells #[.pointer (some ⟨P, 0, none⟩)] 29)).drew).heap.size = w.heap.size + 1 := size_alloc _ _
  rintro e w4 ⟨rfl, hw4⟩
  rw [hsz]
  have hb4 : But [] (w.alloc (.cells #[.pointer (some ⟨P, 0, none⟩)] 29)).drew w4 := by rw [hw4]; exact (But.refl _ _).alloc _
  have HBX : Hid (w4.heap[w.heap.size]? = some (.cells #[.pointer (some ⟨P, 0, none⟩)] 29)) := Lib.hid (hb4.heap (show (w.alloc (.cells #[.pointer (some ⟨P, 0, none⟩)] 29)).drew.heap[w.heap.size]? = some (.cells #[.pointer (some ⟨P, 0, none⟩)] 29) from al_at _ _) (by simp))
  have HIT : Hid (w4.heap[w.heap.size + 1]? = some (.cells #[.pointer (some ⟨P, 4, none⟩)] 89)) := Lib.hid (by rw [hw4, ← hsz]; exact al_at _ _)
  have HZ : Hid (w4.heap.size = w.heap.size + 2) := Lib.hid (by rw [hw4, size_alloc, hsz])
  have HB4 : Hid (But [] w w4) := Lib.hid ((((But.refl [] w).alloc (.cells #[.pointer (some ⟨P, 0, none⟩)] 29)).drew).trans hb4 (by simp))
  have HH4 := Lib.hid (HH.out.new HB4.out)
  have HOB : Hid (OwnBelow w4.heap.size P M U Rm g N E) := Lib.hid (HH4.out.lt)
  have HSEQ := Lib.hid (all_seq 2 (by omega) P (w.heap.size + 1) (bl E) (fun _ => True) w4 HIT.out HH4.out.chain trivial trivial (fun _ _ => trivial))
  clear hsz hw4 hb4 HH1
  gi_wp2
  refine wpIn_rangeFunc_but rfl (by omega) (gf := 48) (lb := #[.pointer (some ⟨w.heap.size + 1, 0, none⟩)]) rfl trivial (enters_of Try.func48 (by kernel_rfl) rfl) HSEQ.out
    (fun h k => h.trans k) (fun hz hb => KeepB.of_but hb (by simp)) (fun V l o o' hl hV ho => KeepB.put V l o o' hV ho) (anyN_abides _ _) (But.refl _ _) (fun _ => rfl)
    (FrI w P M U Rm g K V N E rows) (fun c pre W => c = .exit 0 ∧ FrX w P M U Rm g K V N E rows pre W) (FrI.abides w P M U Rm g K V N E rows _ HOB.out (by have := HZ.out; omega)) (fun c => FrX.abides w P M U Rm g K V N E rows _ HOB.out (by have := HZ.out; omega) c) ⟨rfl, HH4.out, HBX.out, HB4.out⟩
    (fun x a' W => ∃ (u0 u2 u4 u5 u6 u7 u8 u9 u10 u11 u12 u13 u14 u15 u16 u17 u18 u19 u20 u21 u22 u23 u24 u25 u26 u27 u28 u29 u30 u31 u32 u33 u34 u35 u36 u37 u38 : Value), a' = { tmps := List.toArray (u0 :: .pointer (some ⟨w.heap.size, 0, none⟩) :: u2 :: .pointer (some ⟨x, 0, none⟩) :: u4 :: u5 :: u6 :: u7 :: u8 :: u9 :: u10 :: u11 :: u12 :: u13 :: u14 :: u15 :: u16 :: u17 :: u18 :: u19 :: u20 :: u21 :: u22 :: u23 :: u24 :: u25 :: u26 :: u27 :: u28 :: u29 :: u30 :: u31 :: u32 :: u33 :: u34 :: u35 :: u36 :: u37 :: u38 :: []), defers := [] })
    (fun a' => ⟨fun _ _ _ h _ => h, fun _ _ _ _ _ h _ _ _ => h⟩) ?assign ?body ?done ?stop ?throw
  case assign =>
    intro l pre x W K _ _ _ hK
    simp only [encN]
    gi_wp2
    exact hK _ _ (But.refl _ _) ⟨_, _, _, _, _, _, _, _, _, _, _, _, _, _, _, _, _, _, _, _, _, _, _, _, _, _, _, _, _, _, _, _, _, _, _, _, _, rfl⟩
  case body =>
    rintro l pre x a' W ⟨u0, u2, u4, u5, u6, u7, u8, u9, u10, u11, u12, u13, u14, u15, u16, u17, u18, u19, u20, u21, u22, u23, u24, u25, u26, u27, u28, u29, u30, u31, u32, u33, u34, u35, u36, u37, u38, rfl⟩ hI hx hz hlen
    obtain ⟨k, e, hk, rfl⟩ := bl_mem hx
    have c1 : W.cell? ⟨w.heap.size, 0, none⟩ = some (.pointer (some ⟨P, 0, none⟩)) := cl_of hI.box 0
    have HD := Lib.hid (hI.lru.drop hk)
    have HI := Lib.hid hI
    have HKK := Lib.hid hk
    have HZZ := Lib.hid hz
    clear hI hx hlen hk
    gi_wp2
    refine ⟨trivial, ?_⟩
    refine (calls_round HD.out).mono ?_
    rintro r W5 ⟨rfl, h5, hb5⟩
    have HX : Hid (KeepsD w4.heap.size W W5 ∧ FrX w P M U Rm g K V N E rows (pre ++ [e.b]) W5) := Lib.hid (by
      have hL : ∀ x ∈ P :: M :: U :: bl E, x ∈ ownL P M U Rm g N E := fun x hx => by
        simp only [ownL, List.mem_cons, List.mem_append] at hx ⊢
        rcases hx with hx | hx | hx | hx
        · exact .inl hx
        · exact .inr (.inl hx)
        · exact .inr (.inr (.inl hx))
        · exact .inr (.inr (.inr (.inr (.inl hx))))
      refine ⟨KeepsD.of_but hb5 HZZ.out (fun x hx => by have := HOB.out x (hL x hx); omega), ⟨k, e, HKK.out, by rw [HI.out.nil]; rfl, h5⟩, hb5.heap HI.out.box (fun hm => by have := HW0.out _ (hL _ hm); omega), (HI.out.but.mono (by simp)).trans hb5 (fun x hx => .inl hx)⟩)
    clear h5 hb5 HD
    gi_wp2
    exact ⟨HX.out.1, rfl, HX.out.2⟩
  case done =>
    rintro D xs W rfl hS hI hK
    exfalso
    have h1 := hI.nil
    rw [hS] at h1
    have h2 : E.length = 0 := by rw [← bl_len, h1]; rfl
    have := HLN.out
    have := HH.out.bounds.1
    omega
  case stop =>
    rintro D c pre W hD hSp ⟨rfl, hX⟩ hK
    obtain ⟨k, e, hk, hpre, hlw⟩ := hX.one
    rw [hpre] at hSp
    obtain rfl := first_is (List.nodup_cons.1 HH.out.chain.nodup).2 hk hSp
    have c1 : W.cell? ⟨w.heap.size, 0, none⟩ = some (.pointer (some ⟨P, 0, none⟩)) := cl_of hX.box 0
    have HX := Lib.hid hX
    have HK := Lib.hid hK
    have HLW := Lib.hid hlw
    have HDD : Hid (w.heap.size + 2 = D) := Lib.hid (by rw [hD, HZ.out])
    have a9 := hlw.h9
    clear hX hK hk hpre hSp hD hlw
    gi_wp2
    gi_loopw [30] (fun i wr => ∃ k : Nat, k ≤ p ∧ i = .int .i64 k ∧ SameW W wr) (fun i _ => N - (intOf i).toNat)
    case atStart => exact ⟨0, Nat.zero_le _, rfl, rfl⟩
    case round =>
      obtain ⟨k, hk, rfl, hsw⟩ := hrel
      obtain rfl : wr = W := hsw
      have hk0 : (0 : Int) ≤ k := by omega
      obtain ⟨hkN, hk1, hw1⟩ := free_nums hk HL.out.1 HH.out.bounds.2.1
      have cu := HLW.out.u hkN
      by_cases hlt : k < p
      · rw [HL.out.2.2 k hlt] at cu
        have HLT := Lib.hid hlt
        have HKN := Lib.hid hkN
        have HW1 := Lib.hid hw1
        clear hlt hkN
        gi_wp2
        go_roundw
        case rel => exact ⟨k + 1, HLT.out, by go_num, rfl⟩
        case measure => exact free_meas HKN.out HW1.out
      · obtain rfl : k = p := by omega
        rw [HL.out.2.1] at cu
        clear hlt hkN
        gi_wp2
        have hbp := but_putObj (.deferred Option.none) HK.out
        refine ⟨by simp, .inl ⟨_, _, rfl, run_takeDeferred HK.out, ?_⟩⟩
        refine ⟨_, results_tmp rfl _ _ _, k, rfl, HL.out, HLW.out.but hbp (fun x hx hm => by have h7 := HOB.out x (own_erase hx); have h8 := HDD.out; have h9 := HZ.out; simp only [List.mem_singleton] at hm; omega), HX.out.but.trans hbp (fun y hy => .inr (by have := HDD.out; simp at hy; omega))⟩
  case throw =>
    rintro D pre chain W _ h _ _
    exact h.elim
end Go.Proofs.Ytifgfnifadmoaaa.M
