/-
  'step': one deed, by the program and by the document.
-/
import Derived.Test.YtkgoblpddjpcnaaGreatRefAV
import Derived.Test.YtkgoblpddjpcnaaGreatDoA
import Derived.Test.YtkgoblpddjpcnaaGreatPick
import Derived.Test.YtkgoblpddjpcnaaGreatSame
import Derived.Test.YtkgoblpddjpcnaaGreatLent
import Derived.Test.YtkgoblpddjpcnaaGreatKept
import Derived.Test.YtkgoblpddjpcnaaGreatOver
import Derived.Test.YtkgoblpddjpcnaaGreatApart
import Derived.Deep.DeepCutAuto
import Derived.Deep.CutBlock
import Derived.Deep.RegionHeld3
import Derived.Deep.DrawnRows
namespace Go.Proofs.YtkgoblpddjpcnaaGreat.M
open Go.RowKit Go.Shelf
set_option linter.unusedVariables false
set_option linter.unusedSectionVars false
set_option linter.unusedSimpArgs false
attribute [local go_sem ↓] Go.wp_at_zero Go.wp_at_succ
theorem map_intK {xs : List Value} (h : ∀ u ∈ xs, ∃ n : Int, u = .int .u8 n) : ∃ ns : List Int, xs = ns.map (.int .u8) := by
  induction xs with
  | nil => exact ⟨[], rfl⟩
  | cons x xs ih =>
    obtain ⟨ns, rfl⟩ := ih (fun u hu => h u (by simp [hu]))
    obtain ⟨n, rfl⟩ := h x (by simp)
    exact ⟨n :: ns, rfl⟩
/-- Two slices that show the same bytes are the same. -/
theorem same_yesK (s t : Value) (xs : List Value) (w : World) (hs : Sees w s xs) (ht : Sees w t xs) (h1 : ∀ u ∈ xs, ∃ n : Int, u = .int .u8 n) (hl : xs.length ≤ 1000000000000) :
    Calls Tryz.prog 12 #[s, t] w fun e w' => e = .returned (.bool true) ∧ But [] w w' := by
  obtain ⟨ns, rfl⟩ := map_intK h1
  refine (same s t ns ns w hs ht (by simpa using hl)).mono ?_
  rintro e w' ⟨rfl, hb⟩
  exact ⟨by simp, hb⟩
theorem lit_boundsK {n : Int} (h : (Lit.int .i64 n).wf = true) : -9223372036854775808 ≤ n ∧ n ≤ 9223372036854775807 := by
  simp only [Lit.wf, Bool.and_eq_true, decide_eq_true_eq] at h
  exact ⟨Int.le_trans (by decide) h.1, Int.le_trans h.2 (by decide)⟩
/-- Both arrays as they lie: the program's in blocks from n0 on, the reference's from n1 on, below n2. -/
structure AL (W0 : World) (n0 n1 n2 A X val : Nat) (ra rr : List (List Value)) (w : World) : Prop where
  b0 : W0.heap.size ≤ n0
  b1 : n0 ≤ n1
  b2 : n1 ≤ n2
  b3 : n2 ≤ w.heap.size
  arr : ArrS w (fun b => n0 ≤ b ∧ b < n1) A val ra
  ref : RefA w (fun b => n1 ≤ b ∧ b < n2) X val rr
  but : But [] W0 w
section
variable {W0 w w' : World} {n0 n1 n2 A X val : Nat} {ra ra' rr rr' : List (List Value)}
theorem AL.turnA (h : AL W0 n0 n1 n2 A X val ra rr w) (hA : ArrS w' (fun b => n0 ≤ b ∧ b < n1) A val ra') (hb : ∃ L, (∀ x ∈ L, n0 ≤ x ∧ x < n1) ∧ But L w w') : AL W0 n0 n1 n2 A X val ra' rr w' := by
  obtain ⟨L, hL, hb⟩ := hb
  have h0 := h.b0; have h1 := h.b1; have h2 := h.b2; have h3 := h.b3; have h4 := hb.size
  exact ⟨h.b0, h.b1, h.b2, by omega, hA, h.ref.keep hb (fun x hx hk => by have := hL x hx; have h5 : n1 ≤ x ∧ x < n2 := hk; omega), h.but.trans hb (fun x hx => .inr (by have := hL x hx; omega))⟩
theorem AL.turnR (h : AL W0 n0 n1 n2 A X val ra rr w) (hR : RefA w' (fun b => n1 ≤ b ∧ b < n2) X val rr') (hb : ∃ L, (∀ x ∈ L, n1 ≤ x ∧ x < n2) ∧ But L w w') : AL W0 n0 n1 n2 A X val ra rr' w' := by
  obtain ⟨L, hL, hb⟩ := hb
  have h0 := h.b0; have h1 := h.b1; have h2 := h.b2; have h3 := h.b3; have h4 := hb.size
  exact ⟨h.b0, h.b1, h.b2, by omega, h.arr.keep hb (fun x hx hk => by have := hL x hx; have h5 : n0 ≤ x ∧ x < n1 := hk; omega), hR, h.but.trans hb (fun x hx => .inr (by have := hL x hx; omega))⟩
theorem AL.far (h : AL W0 n0 n1 n2 A X val ra rr w) {L : List Nat} (hb : But L w w') (hL : ∀ x ∈ L, n2 ≤ x) : AL W0 n0 n1 n2 A X val ra rr w' := by
  have h0 := h.b0; have h1 := h.b1; have h2 := h.b2; have h3 := h.b3; have h4 := hb.size
  exact ⟨h.b0, h.b1, h.b2, by omega, h.arr.keep hb (fun x hx hk => by have := hL x hx; have h5 : n0 ≤ x ∧ x < n1 := hk; omega), h.ref.keep hb (fun x hx hk => by have := hL x hx; have h5 : n1 ≤ x ∧ x < n2 := hk; omega), h.but.trans hb (fun x hx => .inr (by have := hL x hx; omega))⟩
theorem AL.new (h : AL W0 n0 n1 n2 A X val ra rr w) (hb : But [] w w') : AL W0 n0 n1 n2 A X val ra rr w' := h.far hb (by simp)
end
/-- The deed's box, and what was lent of it. -/
structure SidesA (n2 P g1 g2 : Nat) (d : DeedA) (wx : World) : Prop where
  hP : n2 ≤ P
  h1 : n2 ≤ g1
  h2 : n2 ≤ g2
  hP1 : P ≠ g1
  hP2 : P ≠ g2
  h12 : g1 ≠ g2
  l1 : Lent wx (.slice (some ⟨g1, 0, none⟩) (u8s d.ks).length ((u8s d.ks).length + 12)) (u8s d.ks)
  l2 : Lent wx (.slice (some ⟨g2, 0, none⟩) (u8s d.bs).length ((u8s d.bs).length + 12)) (u8s d.bs)
  box : wx.heap[P]? = some (.cells #[.int .i64 d.what, d.key, d.b, .int .u64 d.flags, .int .i64 d.place, .int .i64 d.off] 39)
theorem Lent.far {w w' : World} {g n c : Nat} {xs : List Value} {L : List Nat} (h : Lent w (.slice (some ⟨g, 0, none⟩) n c) xs) (hb : But L w w') (hg : g ∉ L) : Lent w' (.slice (some ⟨g, 0, none⟩) n c) xs := h.but hb (fun k hk => by cases hk; exact hg)
theorem SidesA.low {n2 P g1 g2 : Nat} {d : DeedA} {wx wy : World} {L : List Nat} (h : SidesA n2 P g1 g2 d wx) (hb : But L wx wy) (hL : ∀ x ∈ L, x < n2) : SidesA n2 P g1 g2 d wy := by
  have hn : ∀ x, n2 ≤ x → x ∉ L := fun x hx hm => by have := hL x hm; omega
  exact ⟨h.hP, h.h1, h.h2, h.hP1, h.hP2, h.h12, h.l1.far hb (hn _ h.h1), h.l2.far hb (hn _ h.h2), hb.heap h.box (hn _ h.hP)⟩
theorem SidesA.new {n2 P g1 g2 : Nat} {d : DeedA} {wx wy : World} (h : SidesA n2 P g1 g2 d wx) (hb : But [] wx wy) : SidesA n2 P g1 g2 d wy := h.low hb (by simp)
/-- What stands behind the deed itself. -/
def MidA (W0 : World) (n0 n1 n2 A X val n P g1 g2 : Nat) (d : DeedA) (wx : World) : Prop :=
  ∃ rows, rows.length = n ∧ AL W0 n0 n1 n2 A X val rows rows wx ∧ SidesA n2 P g1 g2 d wx
def OkTrue (v : Value) : Prop := v = .bool true
theorem valR_bytes {w : World} {ok : Nat → Prop} {X val : Nat} {rows : List (List Value)} (h : RefA w ok X val rows) (place : Int) : IsBytes (valR rows place) ∧ (valR rows place).length ≤ 1024 := by
  unfold valR
  split
  · exact ⟨fun u hu => by simp at hu, by simp⟩
  · rename_i hp
    have hj : place.toNat < rows.length := by omega
    have e : rows.getD place.toNat [] = rows[place.toNat] := by simp [List.getD, hj]
    rw [e]
    have h2 := h.each _ (List.getElem_mem hj)
    exact ⟨h2.1, by have := h.pos; omega⟩
theorem sees_two {w : World} (u v : Value) (t : TypeId) : Sees (w.alloc (.cells #[u, v] t)) (.slice (some ⟨w.heap.size, 0, none⟩) 2 2) [u, v] := by
  refine .inr ⟨⟨w.heap.size, 0, none⟩, 2, rfl, Nat.le_refl _, fun j x hj => ?_⟩
  rw [add_at]
  have h := cl_of (al_at w (.cells #[u, v] t)) (0 + j)
  rw [h]
  match j, hj with
  | 0, hj => simpa using hj
  | 1, hj => simpa using hj
theorem apart_two {u v : Value} (h : ∀ b, u.ownBlock = some b → v.ownBlock = some b → False) : ApartV [u, v] := by
  intro i j x y b hx hy hbx hby
  match i, hx, j, hy with
  | 0, hx, 0, hy => rfl
  | 1, hx, 1, hy => rfl
  | 0, hx, 1, hy =>
    simp at hx hy; subst hx hy; exact (h b hbx hby).elim
  | 1, hx, 0, hy =>
    simp at hx hy; subst hx hy; exact (h b hby hbx).elim
set_option maxRecDepth 100000 in
set_option maxHeartbeats 8000000 in
theorem step_all {W0 w : World} {n0 n1 n2 A X val : Nat} {rows : List (List Value)} (h : AL W0 n0 n1 n2 A X val rows rows w) (d : DeedA) (hd : DeedOk W0 d) :
    Calls Tryz.prog 9 #[.pointer (some ⟨A, 0, none⟩), .pointer (some ⟨X, 0, none⟩), .agg #[.int .i64 d.what, d.key, d.b, .int .u64 d.flags, .int .i64 d.place, .int .i64 d.off]] w fun e w' => e = .returned (.bool true) ∧ ∃ rows', rows'.length = rows.length ∧ AL W0 n0 n1 n2 A X val rows' rows' w' := by
  obtain ⟨t, s, u, ks, bs, fl, pl, of⟩ := d
  obtain ⟨ds, dk, dl, es, ek, el, wt, wf, wp, wo⟩ := hd
  simp only at ds dk dl es ek el wt wf wp wo ⊢
  obtain ⟨a1, c1, rfl⟩ := form_of ds
  obtain ⟨a2, c2, rfl⟩ := form_of es
  have hkl : (u8s ks).length ≤ 140737488351232 := by rw [u8s_len]; exact dl
  have hbl : (u8s bs).length ≤ 140737488351232 := by rw [u8s_len]; exact el
  obtain ⟨w1, hw1⟩ : ∃ w1, w1 = w.alloc (.cells #[.int .i64 t, .slice a1 (u8s ks).length c1, .slice a2 (u8s bs).length c2, .int .u64 fl, .int .i64 pl, .int .i64 of] 39) := ⟨_, rfl⟩
  have hb1 : But [] w w1 := by rw [hw1]; exact (But.refl [] w).alloc _
  have g0 : w1.heap[w.heap.size]? = some (.cells #[.int .i64 t, .slice a1 (u8s ks).length c1, .slice a2 (u8s bs).length c2, .int .u64 fl, .int .i64 pl, .int .i64 of] 39) := by rw [hw1]; exact al_at w _
  obtain ⟨P, hP⟩ : ∃ P, P = w.heap.size := ⟨_, rfl⟩
  rw [← hP] at g0
  have hPn : n2 ≤ P := by rw [hP]; exact h.b3
  have HL1 : Hid (AL W0 n0 n1 n2 A X val rows rows w1) := Lib.hid (h.new hb1)
  have HPW : Hid (P < w1.heap.size) := Lib.hid (lt_of g0)
  have HW := Lib.hid hw1
  have HPP := Lib.hid hP
  have G0 := Lib.hid g0
  have HSK : Hid (∀ wx, But [] W0 wx → Sees wx (.slice a1 (u8s ks).length c1) (u8s ks)) := Lib.hid fun wx hb => ds.but hb (by simp)
  have HSB : Hid (∀ wx, But [] W0 wx → Sees wx (.slice a2 (u8s bs).length c2) (u8s bs)) := Lib.hid fun wx hb => es.but hb (by simp)
  have HKB : Hid (InB ks ∧ InB bs) := Lib.hid ⟨dk, ek⟩
  have HIK : Hid (IsBytes (u8s ks)) := Lib.hid (u8s_bytes ks)
  have HIB : Hid (IsBytes (u8s bs)) := Lib.hid (u8s_bytes bs)
  have HWT := Lib.hid (lit_boundsK wt)
  have HWP := Lib.hid (lit_boundsK wp)
  have HWO := Lib.hid (lit_boundsK wo)
  have k1 : w1.cell? ⟨P, 1, none⟩ = some (.slice a1 (u8s ks).length c1) := cl_of g0 1
  have k2 : w1.cell? ⟨P, 2, none⟩ = some (.slice a2 (u8s bs).length c2) := cl_of g0 2
  have HCC : Hid (∀ wx, But [] w1 wx → wx.cell? ⟨P, 1, none⟩ = some (.slice a1 (u8s ks).length c1) ∧ wx.cell? ⟨P, 2, none⟩ = some (.slice a2 (u8s bs).length c2)) := Lib.hid fun wx hb => ⟨cell_but hb k1 (by simp), cell_but hb k2 (by simp)⟩
  have HB01 : Hid (But [] W0 w1) := Lib.hid HL1.out.but
  have HPN : Hid (n2 ≤ P) := Lib.hid hPn
  have HDL : Hid (ks.length ≤ 140737488351232 ∧ bs.length ≤ 140737488351232) := Lib.hid ⟨dl, el⟩
  clear h hw1 hb1 g0 hP ds dk es ek wt wf wp wo hPn dl el
  go_enter Tryz.func9, Tryz.ntmps9
  go_wp2_with fail
  rw [← HW.out, ← HPP.out]
  go_region_held3 (fun w' => w'.cell? ⟨P, 1, none⟩ = some (.slice a1 (u8s ks).length c1) ∧ w'.cell? ⟨P, 2, none⟩ = some (.slice a2 (u8s bs).length c2)) (first | assumption | go_keep) (first
    | (go_at_call 24; ((with_reducible refine (lent (.slice a1 (u8s ks).length c1) (u8s ks) _ (HSK.out _ (HB01.out.drew)) HIK.out hkl).mono ?_)); rintro e w2 ⟨v1, rfl, hv1, hvo1, hb2⟩; have HV1 := Lib.hid hv1; have HVO1 := Lib.hid hvo1; have HB2 := Lib.hid hb2; have e2 := HCC.out w2 (((But.refl [] w1).drew).trans hb2 (by simp)); clear hv1 hvo1 hb2)
    | (go_at_call 24; ((with_reducible refine (lent (.slice a2 (u8s bs).length c2) (u8s bs) _ (HSB.out _ ((HB01.out.drew).trans HB2.out (by simp))) HIB.out hbl).mono ?_)); rintro e w3 ⟨v2, rfl, hv2, hvo2, hb3⟩; have HV2 := Lib.hid hv2; have HVO2 := Lib.hid hvo2; have HB3 := Lib.hid hb3; have e3 := HCC.out w3 ((((But.refl [] w1).drew).trans HB2.out (by simp)).trans hb3 (by simp)); clear hv2 hvo2 hb3))
  obtain ⟨g1, e⟩ := HV1.out.form
  subst e
  obtain ⟨g2, e⟩ := HV2.out.form
  subst e
  have hg1 : g1 = w1.heap.size := by have h := HVO1.out; simpa [Value.ownBlock] using h
  have hg2 : g2 = w2.heap.size := by have h := HVO2.out; simpa [Value.ownBlock] using h
  have hl1 : g1 < w2.heap.size := by
    obtain ⟨cur, h1, _⟩ := HV1.out.tag g1 rfl
    exact lt_of h1
  have hb13 : But [] w1 w3 := ((((But.refl [] w1).drew).trans HB2.out (by simp))).trans HB3.out (by simp)
  have hpw := HPW.out
  have hpn := HPN.out
  have HS3 : Hid (SidesA n2 P g1 g2 ⟨t, .slice a1 (u8s ks).length c1, .slice a2 (u8s bs).length c2, ks, bs, fl, pl, of⟩ w3) := Lib.hid ⟨by omega, by omega, by omega, by omega, by omega, by omega, HV1.out.far HB3.out (by simp), HV2.out, hb13.heap G0.out (by simp)⟩
  have HL3 : Hid (AL W0 n0 n1 n2 A X val rows rows w3) := Lib.hid (HL1.out.new hb13)
  have c0 : w3.cell? ⟨P, 0, none⟩ = some (.int .i64 t) := cl_of HS3.out.box 0
  clear hg1 hg2 hl1 hb13 hpw hpn e2 e3 k1 k2
  go_wp2_with fail
  refine (pick t 5 _ (by omega) (by omega) HWT.out.1 HWT.out.2).mono ?_
  rintro e w4' ⟨rfl, rfl⟩
  obtain ⟨p, hp⟩ : ∃ p, p = t % 5 := ⟨_, rfl⟩
  rw [← hp]
  clear hp
  go_upto_block 0 with fail
  go_cut [9] (fun ok wx => OkTrue ok ∧ MidA W0 n0 n1 n2 A X val rows.length P g1 g2 ⟨t, .slice a1 (u8s ks).length c1, .slice a2 (u8s bs).length c2, ks, bs, fl, pl, of⟩ wx)
  case first =>
    have HCS : Hid (∀ wx, SidesA n2 P g1 g2 ⟨t, .slice a1 (u8s ks).length c1, .slice a2 (u8s bs).length c2, ks, bs, fl, pl, of⟩ wx → wx.cell? ⟨P, 1, none⟩ = some (.slice a1 (u8s ks).length c1) ∧ wx.cell? ⟨P, 2, none⟩ = some (.slice a2 (u8s bs).length c2) ∧ wx.cell? ⟨P, 3, none⟩ = some (.int .u64 fl) ∧ wx.cell? ⟨P, 4, none⟩ = some (.int .i64 pl) ∧ wx.cell? ⟨P, 5, none⟩ = some (.int .i64 of)) := Lib.hid fun wx h => ⟨cl_of h.box 1, cl_of h.box 2, cl_of h.box 3, cl_of h.box 4, cl_of h.box 5⟩
    by_cases hp0 : p = 0
    · subst hp0
      obtain ⟨E, hE⟩ : ∃ E, E = updE rows.length val ks bs fl := ⟨_, rfl⟩
      have HE := Lib.hid hE
      obtain ⟨e31, e32, e33, e34, e35⟩ := HCS.out _ HS3.out
      clear hE
      go_wp2_with fail
      go_region_held3 (fun w' => w'.cell? ⟨P, 1, none⟩ = some (.slice a1 (u8s ks).length c1) ∧ w'.cell? ⟨P, 2, none⟩ = some (.slice a2 (u8s bs).length c2) ∧ w'.cell? ⟨P, 3, none⟩ = some (.int .u64 fl)) (first | assumption | go_keep) (first
        | (go_at_call 16; ((with_reducible refine (calls_ret (update_all (w := w3.drew) (HL3.out.new ((But.refl [] w3).drew)).arr (.slice (some ⟨g1, 0, none⟩) (u8s ks).length ((u8s ks).length + 12)) (.slice (some ⟨g2, 0, none⟩) (u8s bs).length ((u8s bs).length + 12)) ks bs fl (HS3.out.l1.sees.but ((But.refl [] w3).drew) (by simp)) HKB.out.1 (HS3.out.l2.sees.but ((But.refl [] w3).drew) (by simp))) (v' := .int .i64 E) (by rw [HE.out])).mono ?_)); rintro e w4 ⟨rfl, hA4, L4, hL4, hb4⟩; have h4 := (HL3.out.new ((But.refl [] w3).drew)).turnA hA4 ⟨L4, hL4, hb4⟩; have HL4 := Lib.hid h4; have h5 := (HS3.out.new ((But.refl [] w3).drew)).low hb4 (fun x hx => by have := hL4 x hx; have := HL3.out.b2; omega); have HS4 := Lib.hid h5; have e4 : w4.cell? ⟨P, 1, none⟩ = some (.slice a1 (u8s ks).length c1) ∧ w4.cell? ⟨P, 2, none⟩ = some (.slice a2 (u8s bs).length c2) ∧ w4.cell? ⟨P, 3, none⟩ = some (.int .u64 fl) := ⟨cl_of h5.box 1, cl_of h5.box 2, cl_of h5.box 3⟩; clear h4 h5 hA4 hL4 hb4)
        | (go_at_call 26; ((with_reducible refine (calls_ret (refUpdate_all (w := w4) HL4.out.ref (.slice a1 (u8s ks).length c1) (.slice a2 (u8s bs).length c2) ks bs fl (HSK.out _ HL4.out.but) HKB.out.1 (HSB.out _ HL4.out.but)) (v' := .int .i64 E) (by rw [HE.out])).mono ?_)); rintro e w5 ⟨rfl, hR5, L5, hL5, hb5⟩; have h4 := HL4.out.turnR hR5 ⟨L5, hL5, hb5⟩; have HL5 := Lib.hid h4; have h5 := HS4.out.low hb5 (fun x hx => (hL5 x hx).2); have HS5 := Lib.hid h5; have e5 : w5.cell? ⟨P, 1, none⟩ = some (.slice a1 (u8s ks).length c1) ∧ w5.cell? ⟨P, 2, none⟩ = some (.slice a2 (u8s bs).length c2) ∧ w5.cell? ⟨P, 3, none⟩ = some (.int .u64 fl) := ⟨cl_of h5.box 1, cl_of h5.box 2, cl_of h5.box 3⟩; clear h4 h5 hR5 hL5 hb5))
      go_wp2_with fail
      go_meet
      exact ⟨rfl, _, updR_len _ _ _ _ _, HL5.out, HS5.out⟩
    · have hp0' : (p == 0) = false := by simpa using hp0
      clear hp0
      by_cases hp1 : p = 1
      · subst hp1
        obtain ⟨E, hE⟩ : ∃ E, E = lookE rows.length ks := ⟨_, rfl⟩
        obtain ⟨M, hM⟩ : ∃ M, M = lookN rows.length ks := ⟨_, rfl⟩
        have HE := Lib.hid hE
        have HM := Lib.hid hM
        clear hE hM
        go_wp2_with fail
        refine (calls_ret (lookup_all HL3.out.arr _ ks HS3.out.l1.sees HKB.out.1) (v' := .tuple #[.int .i64 M, .int .i64 E]) (by rw [HE.out, HM.out])).mono ?_
        rintro e w4 ⟨rfl, hb4⟩
        have HL4 := Lib.hid (HL3.out.new hb4)
        have HS4 := Lib.hid (HS3.out.new hb4)
        obtain ⟨e31, e32, e33, e34, e35⟩ := HCS.out _ HS4.out
        clear hb4
        go_wp2_with fail
        refine (calls_ret (refLookup_all HL4.out.ref _ ks (HSK.out _ HL4.out.but) HKB.out.1) (v' := .tuple #[.int .i64 M, .int .i64 E]) (by rw [HE.out, HM.out])).mono ?_
        rintro e w5 ⟨rfl, hb5⟩
        have HL5 := Lib.hid (HL4.out.new hb5)
        have HS5 := Lib.hid (HS4.out.new hb5)
        clear hb5
        go_wp2_with fail
        go_meet
        exact ⟨rfl, _, rfl, HL5.out, HS5.out⟩
      · have hp1' : (p == 1) = false := by simpa using hp1
        clear hp1
        by_cases hp2 : p = 2
        · subst hp2
          obtain ⟨E, hE⟩ : ∃ E, E = setE rows.length val pl of bs.length := ⟨_, rfl⟩
          have HE := Lib.hid hE
          obtain ⟨e31, e32, e33, e34, e35⟩ := HCS.out _ HS3.out
          clear hE
          go_wp2_with fail
          go_region_held3 (fun w' => w'.cell? ⟨P, 2, none⟩ = some (.slice a2 (u8s bs).length c2) ∧ w'.cell? ⟨P, 4, none⟩ = some (.int .i64 pl) ∧ w'.cell? ⟨P, 5, none⟩ = some (.int .i64 of)) (first | assumption | go_keep) (first
            | (go_at_call 17; ((with_reducible refine (calls_ret (set_all (w := w3.drew) (HL3.out.new ((But.refl [] w3).drew)).arr pl of (.slice (some ⟨g2, 0, none⟩) (u8s bs).length ((u8s bs).length + 12)) bs (HS3.out.l2.sees.but ((But.refl [] w3).drew) (by simp))) (v' := .int .i64 E) (by rw [HE.out])).mono ?_)); rintro e w4 ⟨rfl, hA4, L4, hL4, hb4⟩; have h4 := (HL3.out.new ((But.refl [] w3).drew)).turnA hA4 ⟨L4, hL4, hb4⟩; have HL4 := Lib.hid h4; have h5 := (HS3.out.new ((But.refl [] w3).drew)).low hb4 (fun x hx => by have := hL4 x hx; have := HL3.out.b2; omega); have HS4 := Lib.hid h5; have e4 : w4.cell? ⟨P, 2, none⟩ = some (.slice a2 (u8s bs).length c2) ∧ w4.cell? ⟨P, 4, none⟩ = some (.int .i64 pl) ∧ w4.cell? ⟨P, 5, none⟩ = some (.int .i64 of) := ⟨cl_of h5.box 2, cl_of h5.box 4, cl_of h5.box 5⟩; clear h4 h5 hA4 hL4 hb4)
            | (go_at_call 28; ((with_reducible refine (calls_ret (refSet_all (w := w4) HL4.out.ref pl of (.slice a2 (u8s bs).length c2) bs HWP.out HWO.out (HSB.out _ HL4.out.but) HDL.out.2) (v' := .int .i64 E) (by rw [HE.out])).mono ?_)); rintro e w5 ⟨rfl, hR5, L5, hL5, hb5⟩; have h4 := HL4.out.turnR hR5 ⟨L5, hL5, hb5⟩; have HL5 := Lib.hid h4; have h5 := HS4.out.low hb5 (fun x hx => (hL5 x hx).2); have HS5 := Lib.hid h5; have e5 : w5.cell? ⟨P, 2, none⟩ = some (.slice a2 (u8s bs).length c2) ∧ w5.cell? ⟨P, 4, none⟩ = some (.int .i64 pl) ∧ w5.cell? ⟨P, 5, none⟩ = some (.int .i64 of) := ⟨cl_of h5.box 2, cl_of h5.box 4, cl_of h5.box 5⟩; clear h4 h5 hR5 hL5 hb5))
          go_wp2_with fail
          go_meet
          exact ⟨rfl, _, setR_len _ _ _ _ _, HL5.out, HS5.out⟩
        · have hp2' : (p == 2) = false := by simpa using hp2
          clear hp2
          by_cases hp4 : p = 4
          · subst hp4
            go_wp2_with fail
            refine (delete_all HL3.out.arr _).mono ?_
            rintro e w4 ⟨rfl, hb4⟩
            have HL4 := Lib.hid (HL3.out.new hb4)
            have HS4 := Lib.hid (HS3.out.new hb4)
            clear hb4
            go_wp2_with fail
            go_meet
            exact ⟨rfl, _, rfl, HL4.out, HS4.out⟩
          · have hp4' : (p == 4) = false := by simpa using hp4
            clear hp4
            go_wp2_with fail
            go_meet
            exact ⟨rfl, _, rfl, HL3.out, HS3.out⟩
  case rest =>
    obtain ⟨hok, rows', hrl, hAL, hSd⟩ := hcut
    have hok' : _ = Value.bool true := hok
    subst hok'
    have HRL := Lib.hid hrl
    have HL5 := Lib.hid hAL
    have HS5 := Lib.hid hSd
    have f1 : wc.cell? ⟨P, 1, none⟩ = some (.slice a1 (u8s ks).length c1) := cl_of hSd.box 1
    clear hrl hAL hSd hok
    go_wp2_with fail
    refine (kept _ _ (u8s ks) _ HS5.out.l1 (HSK.out _ HL5.out.but) HIK.out hkl).mono ?_
    rintro e w6 ⟨rfl, hb6⟩
    have HL6 := Lib.hid (HL5.out.new hb6)
    have HS6 := Lib.hid (HS5.out.new hb6)
    have f2 : w6.cell? ⟨P, 2, none⟩ = some (.slice a2 (u8s bs).length c2) := cl_of HS6.out.box 2
    clear hb6
    go_wp2_with fail
    refine (kept _ _ (u8s bs) _ HS6.out.l2 (HSB.out _ HL6.out.but) HIB.out hbl).mono ?_
    rintro e w7 ⟨rfl, hb7⟩
    have HL7 := Lib.hid (HL6.out.new hb7)
    have HS7 := Lib.hid (HS6.out.new hb7)
    clear hb7
    go_wp2_with fail
    refine (over_lent HS7.out.l1 hkl).mono ?_
    rintro e w8 ⟨rfl, hb8⟩
    have HL8 := Lib.hid (HL7.out.far hb8 (fun x hx => by simp [Value.ownBlock] at hx; subst hx; exact HS7.out.h1))
    have HV8 := Lib.hid (HS7.out.l2.far hb8 (fun hm => by simp [Value.ownBlock] at hm; exact HS7.out.h12 hm.symm))
    have HX8 := Lib.hid (hb8.heap HS7.out.box (fun hm => by simp [Value.ownBlock] at hm; exact HS7.out.hP1 hm))
    clear hb8
    go_wp2_with fail
    refine (over_lent HV8.out hbl).mono ?_
    rintro e w9 ⟨rfl, hb9⟩
    have HL9 := Lib.hid (HL8.out.far hb9 (fun x hx => by simp [Value.ownBlock] at hx; subst hx; exact HS7.out.h2))
    have hx9 := hb9.heap HX8.out (fun hm => by simp [Value.ownBlock] at hm; exact HS7.out.hP2 hm)
    have HX9 := Lib.hid hx9
    have f4 : w9.cell? ⟨P, 4, none⟩ = some (.int .i64 pl) := cl_of hx9 4
    obtain ⟨vs, hvs⟩ : ∃ vs, vs = valR rows' pl := ⟨_, rfl⟩
    obtain ⟨E, hE⟩ : ∃ E, E = valE rows'.length pl := ⟨_, rfl⟩
    have hvb := valR_bytes HL9.out.ref pl
    rw [← hvs] at hvb
    have hvl := hvb.2
    have HVB := Lib.hid hvb.1
    have CV : Hid (∀ wx, AL W0 n0 n1 n2 A X val rows' rows' wx → Calls Tryz.prog 10 #[.pointer (some ⟨A, 0, none⟩), .int .i64 pl] wx fun e w' => ∃ a c, e = .returned (.tuple #[.slice a vs.length c, .int .i64 E]) ∧ OwnQ w' 5 (.slice a vs.length c) vs ∧ (∀ b, (Value.slice a vs.length c).ownBlock = some b → wx.heap.size ≤ b) ∧ But [] wx w') := Lib.hid fun wx h => by rw [hvs, hE]; exact value_all h.arr pl
    have CR : Hid (∀ wx, AL W0 n0 n1 n2 A X val rows' rows' wx → Calls Tryz.prog 11 #[.pointer (some ⟨X, 0, none⟩), .int .i64 pl] wx fun e w' => ∃ a c, e = .returned (.tuple #[.slice a vs.length c, .int .i64 E]) ∧ OwnQ w' 5 (.slice a vs.length c) vs ∧ (∀ b, (Value.slice a vs.length c).ownBlock = some b → wx.heap.size ≤ b) ∧ But [] wx w') := Lib.hid fun wx h => by rw [hvs, hE]; exact refValue_all h.ref pl HWP.out
    clear hb9 hx9 hvs hE hvb f1 f2 c0
    go_wp2_with fail
    refine (CV.out _ HL9.out).mono ?_
    rintro e wa ⟨aa, ca, rfl, hoa, hna, hba⟩
    have HLa := Lib.hid (HL9.out.new hba)
    have HOa := Lib.hid hoa
    have HNa := Lib.hid hna
    have hxa := hba.heap HX9.out (by simp)
    have HXa := Lib.hid hxa
    have HZa := Lib.hid hba.size
    have fa : wa.cell? ⟨P, 4, none⟩ = some (.int .i64 pl) := cl_of hxa 4
    clear hoa hna hba hxa f4
    go_wp2_with fail
    refine (CR.out _ HLa.out).mono ?_
    rintro e wb ⟨ab, cb, rfl, hob, hnb, hbb⟩
    have HLb := Lib.hid (HLa.out.new hbb)
    have HOb := Lib.hid hob
    have HOab := Lib.hid (HOa.out.but hbb (by simp))
    have hxb := hbb.heap HXa.out (by simp)
    have HZb := Lib.hid hbb.size
    have fb : wb.cell? ⟨P, 4, none⟩ = some (.int .i64 pl) := cl_of hxb 4
    clear hob hnb hbb hxb fa
    go_wp2_with fail
    refine (CV.out _ HLb.out).mono ?_
    rintro e wd ⟨ad, cd, rfl, hod, hnd, hbd⟩
    have HLd := Lib.hid (HLb.out.new hbd)
    have HOd := Lib.hid hod
    have HNd := Lib.hid hnd
    have HOad := Lib.hid (HOab.out.but hbd (by simp))
    have HObd := Lib.hid (HOb.out.but hbd (by simp))
    have HZd := Lib.hid hbd.size
    clear hod hnd hbd fb
    go_wp2_with fail
    refine (same_yesK _ _ vs _ HOad.out.sees HObd.out.sees HVB.out (by omega)).mono ?_
    rintro e we ⟨rfl, hbe⟩
    have HLe := Lib.hid (HLd.out.new hbe)
    have HOae := Lib.hid (HOad.out.but hbe (by simp))
    have HOde := Lib.hid (HOd.out.but hbe (by simp))
    have HZe := Lib.hid hbe.size
    have HAP : Hid (ApartV [.slice aa vs.length ca, .slice ad vs.length cd]) := Lib.hid (apart_two (fun b h1 h2 => by
      have h3 := HOa.out.lt h1
      have h4 := HNd.out b h2
      have := HZb.out
      omega))
    clear hbe
    go_wp2_with fail
    refine (apartBytes _ [.slice aa vs.length ca, .slice ad vs.length cd] (fun _ => vs.length) _ (sees_two _ _ _) HAP.out (fun k v hv => ⟨⟨vs, ?_, rfl⟩, by omega⟩) (by simp)).mono ?_
    · have hb : But [] we (we.alloc (.cells #[.slice aa vs.length ca, .slice ad vs.length cd] 36)) := (But.refl [] we).alloc _
      match k, hv with
      | 0, hv => simp at hv; subst hv; exact HOae.out.but hb (by simp)
      | 1, hv => simp at hv; subst hv; exact HOde.out.but hb (by simp)
    rintro e wf ⟨rfl, hbf⟩
    have HLf : Hid (AL W0 n0 n1 n2 A X val rows' rows' wf) := Lib.hid ((HLe.out.new ((But.refl [] we).alloc _)).far hbf (fun x hx => by
      obtain ⟨j, u, hu, hub⟩ := of_blks hx
      have h9 := HL9.out.b3
      have ha := HZa.out
      have hb := HZb.out
      match j, hu with
      | 0, hu => simp at hu; subst hu; have := HNa.out x hub; omega
      | 1, hu => simp at hu; subst hu; have := HNd.out x hub; omega))
    clear hbf
    go_wp2_with fail
    go_ret
    exact ⟨rfl, rows', HRL.out, HLf.out⟩
end Go.Proofs.YtkgoblpddjpcnaaGreat.M
