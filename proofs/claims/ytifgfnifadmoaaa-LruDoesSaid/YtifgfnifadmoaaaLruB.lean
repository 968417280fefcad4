/-
  lru: young, drop.
-/
import Derived.Test.YtifgfnifadmoaaaLruS
namespace Go.Proofs.Ytifgfnifadmoaaa.M
open Go.RowKit
set_option linter.unusedVariables false
set_option linter.unusedSectionVars false
set_option linter.unusedSimpArgs false
theorem bl_erase (E : List Ent) (k : Nat) : bl (E.eraseIdx k) = (bl E).eraseIdx k := by unfold bl; rw [ChangeMaps.map_eraseIdx]
theorem bl_get {E : List Ent} {k : Nat} {e : Ent} (h : E[k]? = some e) : (bl E).getD k 0 = e.b := by
  unfold bl
  rw [List.getD_eq_getElem?_getD, List.getElem?_map, h]
  rfl
theorem bl_len (E : List Ent) : (bl E).length = E.length := by simp [bl]
theorem perm_erase {α : Type} {E : List α} {k : Nat} {e : α} (h : E[k]? = some e) : E.Perm (E.eraseIdx k ++ [e]) := by
  obtain ⟨hk, rfl⟩ := List.getElem?_eq_some_iff.1 h
  have h1 : E = E.take k ++ E[k] :: E.drop (k + 1) := by rw [← List.drop_eq_getElem_cons hk, List.take_append_drop]
  rw [List.eraseIdx_eq_take_drop_succ]
  have h2 : (E.take k ++ E[k] :: E.drop (k + 1)).Perm ((E.take k ++ E.drop (k + 1)) ++ [E[k]]) := by
    rw [List.append_assoc]
    exact List.Perm.append_left _ (List.perm_append_comm (l₁ := [E[k]]) (l₂ := E.drop (k + 1)))
  exact (List.Perm.of_eq h1).trans h2
section
variable {w : World} {P M U Rm : Nat} {g : Nat → Nat} {K V N : Nat} {E : List Ent} {rows : List (List Int)}
theorem LruW.notin (h : LruW w P M U Rm g K V N E rows) {k : Nat} {e : Ent} (hk : E[k]? = some e) : e.b ∉ P :: (bl E).eraseIdx k := by
  have hn := h.chain.nodup
  have hp : (bl E).Perm ((bl E).eraseIdx k ++ [e.b]) := by
    have := (perm_erase hk).map Ent.b
    rw [List.map_append, ChangeMaps.map_eraseIdx] at this
    exact this
  have hn2 : (P :: ((bl E).eraseIdx k ++ [e.b])).Nodup := (hp.cons P).nodup_iff.1 hn
  rw [List.nodup_cons, List.nodup_append] at hn2
  intro hm
  rcases List.mem_cons.1 hm with hm | hm
  · exact hn2.1 (by rw [← hm]; simp)
  · exact hn2.2.2.2 _ hm e.b (by simp) rfl
theorem two_ring {P : Nat} {l : List Nat} {w : World} (hP : P ∉ l) (i j : Nat) (u v : Value) : RingU P (P :: l) w (two w (nd P l i).1 ((nd P l i).2 + 3) u (nd P l j).1 ((nd P l j).2 + 2) v).drew :=
  ((((RingU.refl P (P :: l) w).node hP (fun x hx => hx) i 3 (.inr rfl) u).node hP (fun x hx => hx) j 2 (.inl rfl) v)).drew
theorem put_ring {P : Nat} {l L : List Nat} {w : World} {x : Nat} (hP : P ∉ l) (hx : x ≠ P) (hL : ∀ y ∈ P :: l, y ∈ L) (hxL : x ∈ L) : RingU P L w (putW w P l x) :=
  ((((((RingU.refl P L w).set x 2 (ptr (nd P l l.length)) hxL (.inr ⟨hx, .inl rfl⟩)).set x 3 (ptr (P, 4)) hxL (.inr ⟨hx, .inr rfl⟩)).node hP hL l.length 3 (.inr rfl) (ptr (x, 0))).set P (4 + 2) (ptr (x, 0)) (hL _ List.mem_cons_self) (.inl ⟨rfl, .inl rfl⟩)).drew).drew
theorem cell1_of {w : World} {b o : Nat} {C : Array Value} {T : TypeId} (h : w.heap[b]? = some (.cells C T (0, 0))) (ho : o < C.size) : Cell1 w b o := ⟨C, T, h, ho⟩
/-- A link of one's own goes out. -/
theorem LruW.out (h : LruW w P M U Rm g K V N E rows) {k : Nat} {e : Ent} (hk : E[k]? = some e) :
    Calls Try.prog 47 #[.pointer (some ⟨e.b, 0, none⟩)] w fun r w' => r = .returned (.tuple #[]) ∧ Chain w' P ((bl E).eraseIdx k) ∧ RingU P (P :: bl E) w w' := by
  have hkl : k < (bl E).length := by rw [bl_len]; exact (List.getElem?_eq_some_iff.1 hk).1
  have h1 := h.chain.prev k (by omega)
  have h2 := h.chain.next (k + 1) (by omega)
  rw [nd_in hkl, bl_get hk] at h1 h2
  refine (out_c e.b (nd P (bl E) k).1 (nd P (bl E) k).2 (nd P (bl E) (k + 2)).1 (nd P (bl E) (k + 2)).2 w h1 h2 (h.chain.cells' (by omega)).2 (h.chain.cells' (by omega)).1).mono ?_
  rintro r w1 ⟨rfl, rfl⟩
  exact ⟨rfl, h.chain.erase hkl, two_ring h.apart.pe k (k + 2) _ _⟩
/-- A link is put. -/
theorem put_chain {w : World} {P : Nat} {l : List Nat} {x : Nat} (hc : Chain w P l) (hx : x ∉ P :: l) (h2 : Cell1 w x 2) (h3 : Cell1 w x 3) :
    Calls Try.prog 35 #[.pointer (some ⟨P, 4, none⟩), .pointer (some ⟨x, 0, none⟩)] w fun r w' => r = .returned (.tuple #[]) ∧ w' = putW w P l x := by
  have h1 := hc.prev l.length (Nat.le_refl _)
  rw [nd_last] at h1
  have h5 := (hc.cells 0 (by omega)).1
  rw [nd_zero] at h5
  exact put_c P 4 x (nd P l l.length).1 (nd P l l.length).2 w h1 h2 h3 (hc.cells l.length (Nat.le_refl _)).2 h5
theorem LruW.young (h : LruW w P M U Rm g K V N E rows) {k : Nat} {e : Ent} (hk : E[k]? = some e) :
    Calls Try.prog 33 #[.pointer (some ⟨P, 0, none⟩), .pointer (some ⟨e.b, 0, none⟩)] w fun r w' => r = .returned (.tuple #[]) ∧ LruW w' P M U Rm g K V N (E.eraseIdx k ++ [e]) rows ∧ But (P :: bl E) w w' := by
  have HO := Lib.hid (h.out hk)
  have HN := Lib.hid (h.notin hk)
  have HH := Lib.hid h
  have HK := Lib.hid hk
  obtain ⟨x, hx⟩ : ∃ x, x = e.b := ⟨_, rfl⟩
  rw [← hx] at HO HN ⊢
  have HX := Lib.hid hx
  clear h hk hx
  go_enter Try.func33, Try.ntmps33
  go_wp2_with fail
  refine HO.out.mono ?_
  rintro r w1 ⟨rfl, hc1, hr1⟩
  have hlk : LinkW w1 e := (HH.out.link e (List.mem_of_getElem? HK.out)).ring hr1 (fun y => HN.out (by rw [HX.out, y]; exact List.mem_cons_self))
  obtain ⟨C, hC1, hC2, _⟩ := hlk
  rw [← HX.out] at hC1
  have HP := Lib.hid (put_chain hc1 HN.out (cell1_of hC1 (by omega)) (cell1_of hC1 (by omega)))
  have HC := Lib.hid (hc1.push HN.out (cell1_of hC1 (by omega)) (cell1_of hC1 (by omega)))
  have HR : Hid (RingU P (P :: bl E) w (putW w1 P ((bl E).eraseIdx k) x)) := Lib.hid (hr1.trans (put_ring (fun hm => HH.out.apart.pe (List.mem_of_mem_eraseIdx hm)) (fun y => HN.out (by rw [y]; exact List.mem_cons_self)) (fun y hy => by
    rcases List.mem_cons.1 hy with rfl | hy
    · exact List.mem_cons_self
    · exact List.mem_cons_of_mem _ (List.mem_of_mem_eraseIdx hy)) (by rw [HX.out]; exact List.mem_cons_of_mem _ (mem_bl.2 ⟨e, List.mem_of_getElem? HK.out, rfl⟩))))
  clear hc1 hr1 hC1 hC2
  go_wp2_with fail
  refine HP.out.mono ?_
  rintro r w2 ⟨rfl, hw2⟩
  rw [← hw2] at HC HR
  have HF : Hid (LruW w2 P M U Rm g K V N (E.eraseIdx k ++ [e]) rows) := Lib.hid (HH.out.relink (perm_erase HK.out) HR.out (by
    have h9 : bl (E.eraseIdx k ++ [e]) = (bl E).eraseIdx k ++ [x] := by
      rw [HX.out]
      show (E.eraseIdx k ++ [e]).map Ent.b = _
      rw [List.map_append]
      show bl (E.eraseIdx k) ++ [e.b] = _
      rw [bl_erase]
    rw [h9]
    exact HC.out))
  clear hw2
  go_wp2_with fail
  go_end0
  exact ⟨rfl, HF.out, HR.out.1⟩
end
end Go.Proofs.Ytifgfnifadmoaaa.M
