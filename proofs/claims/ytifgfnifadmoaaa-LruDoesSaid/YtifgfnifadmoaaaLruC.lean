/-
  lru: drop.
-/
import Derived.Test.YtifgfnifadmoaaaLruB
namespace Go.Proofs.Ytifgfnifadmoaaa.M
open Go.RowKit
set_option linter.unusedVariables false
set_option linter.unusedSectionVars false
set_option linter.unusedSimpArgs false
theorem filter_erase {α : Type} {κ : Type} [DecidableEq κ] (f : α → κ) {E : List α} {k : Nat} {e : α} (hk : E[k]? = some e) (hn : (E.map f).Nodup) : E.filter (fun x => decide (f x ≠ f e)) = E.eraseIdx k := by
  refine (List.filter_congr (fun p hp => ?_)).trans (ChangeMaps.filter_eq_eraseIdx (fun p => decide (f p = f e)) E k e hk (by simp) ?_)
  · by_cases h : f p = f e <;> simp [h]
  · refine List.Pairwise.imp ?_ (List.pairwise_map.1 hn)
    intro a c hac h
    simp only [decide_eq_true_eq] at h
    exact hac (h.1.trans h.2.symm)
theorem not_in_erase {α κ : Type} (f : α → κ) {E : List α} {k : Nat} {e : α} (hk : E[k]? = some e) (hn : (E.map f).Nodup) : ∀ x ∈ E.eraseIdx k, f x ≠ f e := by
  have hp := ((perm_erase hk).map f).nodup_iff.1 hn
  rw [List.map_append, List.nodup_append] at hp
  exact fun x hx => hp.2.2 _ (List.mem_map.2 ⟨x, hx, rfl⟩) _ (by simp)
theorem used_erase {E : List Ent} {k : Nat} {e : Ent} (hk : E[k]? = some e) (hn : (E.map Ent.place).Nodup) (i : Nat) : (if i = e.place then false else usedB E i) = usedB (E.eraseIdx k) i := by
  by_cases h : i = e.place
  · rw [if_pos h, eq_comm, Bool.eq_false_iff]
    intro hu
    obtain ⟨x, hx, hxe⟩ := usedB_iff.1 hu
    exact not_in_erase Ent.place hk hn x hx (by rw [hxe, h])
  · rw [if_neg h, Bool.eq_iff_iff, usedB_iff, usedB_iff]
    constructor
    · rintro ⟨x, hx, rfl⟩
      have := (perm_erase hk).mem_iff.1 hx
      rcases List.mem_append.1 this with hx | hx
      · exact ⟨x, hx, rfl⟩
      · simp only [List.mem_singleton] at hx
        subst hx
        exact absurd rfl h
    · rintro ⟨x, hx, rfl⟩
      exact ⟨x, List.mem_of_mem_eraseIdx hx, rfl⟩
def ek (e : Ent) : ByteArray × Value := (e.key, lp e.b)
section
variable {w : World} {P M U Rm : Nat} {g : Nat → Nat} {K V N : Nat} {E : List Ent} {rows : List (List Int)}
theorem LruW.maps (h : LruW w P M U Rm g K V N E rows) {ps : List (ByteArray × Value)} (hp : ps.Perm (E.map fun e => (e.key, lp e.b))) : (ps.map (·.1)).Nodup ∧ (∀ p ∈ ps, p.1.size ≤ maxLen) := by
  have h1 : (ps.map (·.1)).Perm (E.map Ent.key) := by
    have := hp.map (·.1)
    rw [List.map_map] at this
    exact this
  refine ⟨h1.nodup_iff.2 h.keys.1, fun p hpp => ?_⟩
  obtain ⟨e, he, rfl⟩ := List.mem_map.1 (hp.mem_iff.1 hpp)
  have := h.keys.2 e he
  have := h.bounds
  unfold maxLen
  show e.key.size ≤ _
  omega
theorem map_erase {ps : List (ByteArray × Value)} {k : Nat} {e : Ent} (hk : E[k]? = some e) (hn : (E.map Ent.key).Nodup) (hp : ps.Perm (E.map fun e => (e.key, lp e.b))) : (ps.filter (fun p => decide (p.1 ≠ e.key))).Perm ((E.eraseIdx k).map fun e => (e.key, lp e.b)) := by
  have h1 := hp.filter (fun p => decide (p.1 ≠ e.key))
  rw [List.filter_map] at h1
  have h2 : E.filter ((fun p : ByteArray × Value => decide (p.1 ≠ e.key)) ∘ fun e => (e.key, lp e.b)) = E.eraseIdx k := filter_erase Ent.key hk hn
  rwa [h2] at h1
/-- A link gone, its entry gone, its place free. -/
theorem LruW.less (h : LruW w P M U Rm g K V N E rows) {k : Nat} {e : Ent} (hk : E[k]? = some e) {w1 w2 w3 : World} {ps : List (ByteArray × Value)} (hc : Chain w1 P ((bl E).eraseIdx k)) (hr : RingU P (P :: bl E) w w1)
    (hb2 : But [M] w1 w2) (hm : MapS w2 M ps) (hp : ps.Perm ((E.eraseIdx k).map fun e => (e.key, lp e.b))) (hb3 : But [U] w2 w3) (hu : UsedW w2 U N (usedB E) → UsedW w3 U N (fun i => if i = e.place then false else usedB E i)) : LruW w3 P M U Rm g K V N (E.eraseIdx k) rows := by
  have hA := h.apart
  have hsub : ∀ x ∈ E.eraseIdx k, x ∈ E := fun x hx => List.mem_of_mem_eraseIdx hx
  have hMr : M ∉ P :: bl E := by simp only [List.mem_cons]; rintro (x | x); exact hA.pm x.symm; exact hA.me x
  have hUr : U ∉ P :: bl E := by simp only [List.mem_cons]; rintro (x | x); exact hA.pu x.symm; exact hA.ue x
  have hRr : Rm ∉ P :: bl E := by simp only [List.mem_cons]; rintro (x | x); exact hA.pr x.symm; exact hA.re x
  have hGr : ∀ i, i < N → g i ∉ P :: bl E := fun i hi => by simp only [List.mem_cons]; rintro (x | x); exact hA.pg i hi x.symm; exact hA.eg i hi x
  refine ⟨((h.head.ring hr).but hb2 (by simp; exact hA.pm)).but hb3 (by simp; exact hA.pu), ?_, fun x hx => ?_, ⟨ps, hm.but hb3 (by simp; exact hA.mu), hp⟩, ?_, ?_, ?_, h.ginj, ?_, ?_, h.bounds⟩
  · rw [bl_erase]
    have hin : ∀ x ∈ (bl E).eraseIdx k, x ∈ bl E := fun x hx => List.mem_of_mem_eraseIdx hx
    exact (hc.but hb2 (by simp; exact hA.pm) (fun x hx => by simp; rintro rfl; exact hA.me (hin _ hx))).but hb3 (by simp; exact hA.pu) (fun x hx => by simp; rintro rfl; exact hA.ue (hin _ hx))
  · have hxe := hsub x hx
    have hxb : x.b ∈ bl E := mem_bl.2 ⟨x, hxe, rfl⟩
    exact (((h.link x hxe).ring hr (fun y => hA.pe (y ▸ hxb))).but hb2 (by simp; rintro y; exact hA.me (y ▸ hxb))).but hb3 (by simp; rintro y; exact hA.ue (y ▸ hxb))
  · exact (hu ((h.used.but hr.1 hUr).but hb2 (by simp; exact hA.mu.symm))).congr (fun i _ => used_erase hk h.places.1 i)
  · exact ((h.room.but hr.1 hRr).but hb2 (by simp; exact hA.mr.symm)).but hb3 (by simp; exact hA.ur.symm)
  · exact ((h.rowsw.but hr.1 hGr).but hb2 (fun i hi => by simp; exact (hA.mg i hi).symm)).but hb3 (fun i hi => by simp; exact (hA.ug i hi).symm)
  · exact ⟨by rw [ChangeMaps.map_eraseIdx]; exact h.keys.1.eraseIdx k, fun x hx => h.keys.2 x (hsub x hx)⟩
  · exact ⟨by rw [ChangeMaps.map_eraseIdx]; exact h.places.1.eraseIdx k, fun x hx => h.places.2 x (hsub x hx)⟩
set_option maxRecDepth 100000 in
set_option maxHeartbeats 1000000 in
theorem LruW.drop (h : LruW w P M U Rm g K V N E rows) {k : Nat} {e : Ent} (hk : E[k]? = some e) :
    Calls Try.prog 37 #[.pointer (some ⟨P, 0, none⟩), .pointer (some ⟨e.b, 0, none⟩)] w fun r w' => r = .returned (.tuple #[]) ∧ LruW w' P M U Rm g K V N (E.eraseIdx k) rows ∧ But (P :: M :: U :: bl E) w w' := by
  have he := List.mem_of_getElem? hk
  have HO := Lib.hid (h.out hk)
  have HH := Lib.hid h
  have HK := Lib.hid hk
  have HEB : Hid (e.b ≠ P ∧ e.b ≠ M ∧ e.b ≠ U) := Lib.hid (by
    have hA := h.apart
    have hx : e.b ∈ bl E := mem_bl.2 ⟨e, he, rfl⟩
    exact ⟨fun y => hA.pe (y ▸ hx), fun y => hA.me (y ▸ hx), fun y => hA.ue (y ▸ hx)⟩)
  have HPL : Hid (e.place < N ∧ N ≤ 1048576) := Lib.hid ⟨h.places.2 e he, h.bounds.2.1⟩
  clear h hk he
  obtain ⟨x, key, p⟩ := e
  simp only at HEB HPL HO ⊢
  go_enter Try.func37, Try.ntmps37
  go_wp2_with fail
  refine HO.out.mono ?_
  rintro r w1 ⟨rfl, hc1, hr1⟩
  have HC1 := Lib.hid hc1
  have HR1 := Lib.hid hr1
  obtain ⟨CP, k1, k2, _, _, _, k8, k9, _⟩ := HH.out.head.ring hr1
  obtain ⟨CL, l1, l2, l3, l4⟩ := (HH.out.link ⟨x, key, p⟩ (List.mem_of_getElem? HK.out)).ring hr1 HEB.out.1
  have a8 : w1.cell? ⟨P, 8, none⟩ = some (.map (some M)) := by rw [cl_of k1]; exact k8
  have b0 : w1.cell? ⟨x, 0, none⟩ = some (.string key) := by rw [cl_of l1]; exact l3
  obtain ⟨ps, hm, hp⟩ := HH.out.map
  obtain ⟨hnd, hsz⟩ := HH.out.maps hp
  have hm1 : MapS w1.drew M ps := (hm.but hr1.1 (by have hA := HH.out.apart; simp only [List.mem_cons]; rintro (y | y); exact hA.pm y.symm; exact hA.me y)).but ((But.refl [] w1).drew) (by simp)
  obtain ⟨w2, hrun, hm2, hb2⟩ := mapS_del (P := Try.prog) Try.underlying9 Try.underlying62 hm1 hsz (n := key) (hsz (key, lp x) (hp.mem_iff.2 (List.mem_map.2 ⟨⟨x, key, p⟩, List.mem_of_getElem? HK.out, rfl⟩))) (v := lp x) (hp.mem_iff.2 (List.mem_map.2 ⟨⟨x, key, p⟩, List.mem_of_getElem? HK.out, rfl⟩)) hnd 0
  have HM2 := Lib.hid hm2
  have HP2 := Lib.hid (map_erase HK.out HH.out.keys.1 hp)
  have HB2 : Hid (But [M] w1 w2) := Lib.hid (((But.refl [M] w1).drew).trans hb2 (fun y hy => .inl hy))
  have HK9 : Hid (w2.cell? ⟨P, 9, none⟩ = some (.slice (some ⟨U, 0, none⟩) N N)) := Lib.hid (by rw [cl_of (HB2.out.heap k1 (by simp; exact HH.out.apart.pm))]; exact k9)
  have HB1 : Hid (w2.cell? ⟨x, 1, none⟩ = some (.int .i64 p)) := Lib.hid (by rw [cl_of (HB2.out.heap l1 (by simp; exact HEB.out.2.1))]; exact l4)
  have HU2 : Hid (UsedW w2 U N (usedB E)) := Lib.hid ((HH.out.used.but HR1.out.1 (by have hA := HH.out.apart; simp only [List.mem_cons]; rintro (y | y); exact hA.pu y.symm; exact hA.ue y)).but HB2.out (by simp; exact HH.out.apart.mu.symm))
  clear hc1 hr1 k1 k2 k8 k9 l1 l2 l3 l4 hm hp hnd hsz hm1 hm2 hb2
  go_upto_region 1 with fail
  refine wp_region_tail9 9 (by kernel_rfl) (by kernel_rfl) ?_
  simp only [List.take_succ_cons, List.take_zero, List.drop_succ_cons, List.drop_zero]
  repeat still_step
  refine wpStill_nil ?_
  go_upto_region 2 with fail
  clear hrun a8 b0
  have a9 := HK9.out
  have b1 := HB1.out
  have c0 : Cell1 w2 U p := by obtain ⟨C, h1, h2, _⟩ := HU2.out; exact ⟨C, _, h1, by rw [h2]; exact HPL.out.1⟩
  obtain ⟨vu, c1⟩ := c0.cell
  have c2 := c0.frozen
  have HF : Hid (LruW (w2.setCell ⟨U, p, none⟩ (.bool false)).drew P M U Rm g K V N (E.eraseIdx k) rows) := Lib.hid (HH.out.less HK.out HC1.out HR1.out HB2.out HM2.out HP2.out (((But.refl [U] w2).setCell (.inl (by simp)) _).drew) (fun hu => hu.set p false))
  have HB : Hid (But (P :: M :: U :: bl E) w (w2.setCell ⟨U, p, none⟩ (.bool false)).drew) := Lib.hid ((((HR1.out.1.mono (fun y hy => by rcases List.mem_cons.1 hy with rfl | hy; exact List.mem_cons_self; simp [hy])).trans HB2.out (fun y hy => .inl (by simp at hy; simp [hy]))).setCell (.inl (by simp)) _).drew)
  have q0 : (0 : Int) ≤ p := by omega
  have q1 : (p : Int) < N := by have := HPL.out; omega
  clear c0
  refine wp_region_tail9 10 (by kernel_rfl) (by kernel_rfl) ?_
  simp only [List.take_succ_cons, List.take_zero, List.drop_succ_cons, List.drop_zero]
  repeat still_step
  refine wpStill_nil ?_
  go_wp2_with fail
  go_end0
  exact ⟨rfl, HF.out, HB.out⟩
end
end Go.Proofs.Ytifgfnifadmoaaa.M
