/-
  Merged: RefLU, RefLV, RefLW.
-/
import Derived.Test.YtifgfnifadmoaaaRefLAll
import Derived.BigRegion
import Derived.Deep.CutBlock
import Derived.Test.YtifgfnifadmoaaaKeysT
namespace Go.Proofs.Ytifgfnifadmoaaa.M
open Go.RowKit
set_option linter.unusedVariables false
set_option linter.unusedSectionVars false
set_option linter.unusedSimpArgs false
attribute [local go_sem ↓] Go.wp_at_zero Go.wp_at_succ
theorem freeA_ex {A : LSt} {N : Nat} (h : A.length < N) : ∃ p, p < N ∧ leastA A N = p ∧ freeI A N = p := by
  have hE : pairs (A.map fun x => ({ b := 0, key := strOfNums x.1, place := x.2 } : Ent)) = enc A := by simp [pairs, enc]
  obtain ⟨p, hp⟩ := least_ex (E := A.map fun x => ({ b := 0, key := strOfNums x.1, place := x.2 } : Ent)) (N := N) (by simpa using h)
  refine ⟨p, hp.1, least_enc hE hp, freeR_here hp.1 (fun j hj => ?_) ?_⟩
  · rw [← used_enc hE]; exact hp.2.2 j hj
  · rw [← used_enc hE]; exact hp.2.1
theorem freeA_full {A : LSt} {N : Nat} (h : A.length = N) (hn : (A.map (·.2)).Nodup) (hl : ∀ x ∈ A, x.2 < N) : freeI A N = -1 := by
  refine freeR_no fun p hp => ?_
  by_cases hm : p ∈ A.map (·.2)
  · obtain ⟨x, hx, rfl⟩ := List.mem_map.1 hm
    unfold usedA
    exact List.any_eq_true.2 ⟨x, hx, by simp⟩
  · have h1 := nodup_below N (p :: A.map (·.2)) (List.nodup_cons.2 ⟨hm, hn⟩) (fun x hx => by
      rcases List.mem_cons.1 hx with rfl | hx
      · exact hp
      · obtain ⟨y, hy, rfl⟩ := List.mem_map.1 hx
        exact hl y hy)
    rw [List.length_cons, List.length_map] at h1
    omega
section
variable {w : World} {ok : Nat → Prop} {R K V N : Nat} {A : LSt} {rows : List (List Int)}
/-- What is refused. -/
theorem RefL.upd_bad (h : RefL w ok R K V N A rows) (a vb : Option Addr) (c vc : Nat) (ks vs : List Int) (f : Int) (hb : ks.length ≠ K ∨ vs.length ≠ V ∨ 2 < f) :
    Calls Try.prog 28 #[.pointer (some ⟨R, 0, none⟩), .slice a ks.length c, .slice vb vs.length vc, .int .u64 f] w fun e w' => e = .returned (.int .i64 2) ∧ w = w' := by
  obtain ⟨la, lc, c4, hP, c1, c2, c3, hlt⟩ := h.slot
  clear h hP c4
  by_cases h1 : ks.length = K
  · have q1 := eq_len h1
    by_cases h2 : vs.length = V
    · have q2 := eq_len h2
      have q3 : 2 < f := by omega
      clear hb h1 h2
      go_enter Try.func28, Try.ntmps28
      go_wp2_with fail
      go_ret
      exact ⟨rfl, rfl⟩
    · have q2 := ne_len h2
      clear hb h1 h2
      go_enter Try.func28, Try.ntmps28
      go_wp2_with fail
      go_ret
      exact ⟨rfl, rfl⟩
  · have q1 := ne_len h1
    clear hb h1
    go_enter Try.func28, Try.ntmps28
    go_wp2_with fail
    go_ret
    exact ⟨rfl, rfl⟩
theorem flag_ne {f k : Int} (h : f ≠ k) : (f == k) = false := by simpa using h
set_option maxRecDepth 100000 in
set_option maxHeartbeats 4000000 in
/-- The key is there. -/
theorem RefL.upd_hit (h : RefL w ok R K V N A rows) (hok : ∀ b, w.heap.size ≤ b → ok b) (a vb : Option Addr) (c vc : Nat) {ks vs : List Int} (hs : Sees w (.slice a ks.length c) (u8s ks)) (hk : ByteL ks) (hvs : Sees w (.slice vb vs.length vc) (u8s vs)) (hv : ByteL vs) (f : Int) (h1 : ks.length = K) (h2 : vs.length = V) (h3 : ¬ 2 < f) {k : Nat} (hf : findK A ks = some k) :
    Calls Try.prog 28 #[.pointer (some ⟨R, 0, none⟩), .slice a ks.length c, .slice vb vs.length vc, .int .u64 f] w fun e w' => e = .returned (.int .i64 (if f = 1 then 7 else 0)) ∧ RefL w' ok R K V N (if f = 1 then A else youngA A k) (if f = 1 then rows else rows.set (placeA A k) vs) ∧ Turns ok w w' := by
  obtain ⟨la, lc, c4, hP, c1, c2, c3, hlt⟩ := h.slot
  have hn : A.length ≤ 1024 := Nat.le_trans h.len h.bounds.2.2.2
  have HH := Lib.hid h
  have HOK := Lib.hid hok
  have HF := Lib.hid (refFind c4 hP (fun x hx => (h.keys x hx).1) hn hs hk)
  have HP := Lib.hid hP
  have HV := Lib.hid (findI_some hf)
  obtain ⟨_, hx⟩ := findK_some hf
  have hkl : k < A.length := (List.getElem?_eq_some_iff.1 hx).1
  obtain ⟨hk0, hk1, _, _⟩ := find_nums hkl hn
  have hk9 : (0 : Int) ≤ k := hk0
  obtain ⟨g, rfl⟩ := hP.addr (by omega)
  obtain ⟨p, hp⟩ : ∃ p, p = placeA A k := ⟨_, rfl⟩
  rw [← hp] at hx ⊢
  have hpN : p < N := (h.keys _ (List.mem_of_getElem? hx)).2
  have HX := Lib.hid hx
  have q1 := eq_len h1
  have q2 := eq_len h2
  have HV2 := Lib.hid h2
  have HVS := Lib.hid hvs
  have HVB := Lib.hid hv
  have hp0 : (0 : Int) ≤ p := by omega
  have hp1 : (p : Int) < N := by omega
  have HPN := Lib.hid hpN
  by_cases hf1 : f = 1
  · subst hf1
    rw [if_pos rfl, if_pos rfl, if_pos rfl]
    clear h hok hP hs hk hf hx hp hkl h1 h2 hvs hv hpN h3
    go_enter Try.func28, Try.ntmps28
    go_wp2_with fail
    refine (calls_val HF.out (v' := .int .i64 k) (by rw [HV.out])).mono ?_
    rintro e w1 ⟨rfl, hb⟩
    have HB := Lib.hid hb
    clear hb
    go_wp2_with fail
    go_ret
    exact ⟨rfl, HH.out.keep HB.out (by simp), turns_new HB.out⟩
  · rw [if_neg hf1, if_neg hf1, if_neg hf1]
    have hf1' := flag_ne hf1
    clear h hok hP hs hk hf hx hp hkl h1 h2 hvs hv hpN hf1
    go_enter Try.func28, Try.ntmps28
    go_wp2_with fail
    refine (calls_val HF.out (v' := .int .i64 k) (by rw [HV.out])).mono ?_
    rintro e w1 ⟨rfl, hb⟩
    have k4 : w1.cell? ⟨R, 4, none⟩ = some (.slice (some ⟨g, 0, none⟩) A.length lc) := cell_but hb c4 (by simp)
    obtain ⟨_, d2⟩ := (HP.out.but hb (by simp)).at2 (enc_get HX.out)
    have HB := Lib.hid hb
    have HR1 := Lib.hid (HH.out.keep hb (by simp))
    obtain ⟨gv, ov, d, r, pg, po, pc, cur, hpl⟩ := HR1.out.place HPN.out
    have e5 := hpl.cell5
    have ep := hpl.cellp
    have HPL := Lib.hid hpl
    have HPOS : Hid (0 < (u8s vs).length → ∃ ad, vb = some ad ∧ ∀ j v, (u8s vs)[j]? = some v → w1.drew.cell? (ad.add j) = some v) := Lib.hid fun h0 => sees_src (HVS.out.but (HB.out.drew) (by simp)) h0
    have HLN : Hid ((u8s vs).length = Nat.min vs.length V) := Lib.hid (by rw [u8s_len, HV2.out]; exact (Nat.min_self _).symm)
    have HFIT : Hid (po + (u8s vs).length ≤ cur.length) := Lib.hid (by rw [u8s_len, HV2.out]; have := hpl.fit; omega)
    have HG : Hid (w1.drew.heap[pg]? = some (.cells cur.toArray 5 (0, 0))) := Lib.hid hpl.cells
    have KEY : Hid (∀ w', w'.heap[pg]? = some (.cells (splice cur po (u8s vs)).toArray 5 (0, 0)) → But [pg] w1.drew w' → RefL w' ok R K V N A (rows.set p vs) ∧ Turns ok w w') := Lib.hid fun w' hg' hb' => by
      have hb2 : But [pg] w1 w' := ((But.refl [] w1).drew.mono (by simp)).trans hb' (fun x hx => .inl hx)
      have h9 := HPL.out.turn w' 0 vs (by rw [HV2.out]; omega) HVB.out hg' hb2
      rw [setAt_all (by rw [HV2.out, HPL.out.len])] at h9
      exact ⟨h9, turns_trans (turns_new HB.out) (.of hb2 (fun x hx => by have e : x = pg := (by simpa using hx); rw [e]; exact HPL.out.okg))⟩
    clear hb hpl
    go_wp2_with fail
    go_region_law (refine step_copy (by rfl) (.tmp 53) (.tmp 54) 25 25 (by rfl) 5 Try.underlying25 (by kernel_rfl) (some ⟨pg, po, none⟩) vb V pc vs.length vc (by rfl) (by rfl) pg po cur 5 HG.out (u8s vs) HLN.out (fun h => ⟨rfl, HPOS.out h⟩) HFIT.out (u8s_one vs) ?_; intro w5 hg5 hb5; obtain ⟨h5, t5⟩ := KEY.out w5 hg5.out hb5; have H5 := Lib.hid h5; have T5 := Lib.hid t5; have HZ5 := Lib.hid hb5.size; clear hg5 hb5 h5 t5)
    all_goals
      go_wp2_with fail
      refine (H5.out.younger (fun b hb' => HOK.out b (Nat.le_trans HB.out.size (Nat.le_trans HZ5.out hb'))) HX.out).mono ?_
      rintro e w6 ⟨rfl, h6, t6⟩
      have H6 := Lib.hid h6
      have T6 := Lib.hid t6
      clear h6 t6
      go_wp2_with fail
      go_ret
      exact ⟨rfl, H6.out, turns_trans T5.out T6.out⟩
end
end Go.Proofs.Ytifgfnifadmoaaa.M
namespace Go.Proofs.Ytifgfnifadmoaaa.M
open Go.RowKit
set_option linter.unusedVariables false
set_option linter.unusedSectionVars false
set_option linter.unusedSimpArgs false
attribute [local go_sem ↓] Go.wp_at_zero Go.wp_at_succ
section
variable {w : World} {ok : Nat → Prop} {R K V N : Nat} {A : LSt} {rows : List (List Int)}
set_option maxRecDepth 100000 in
set_option maxHeartbeats 4000000 in
theorem RefL.upd_miss2 (h : RefL w ok R K V N A rows) (a vb : Option Addr) (c vc : Nat) {ks vs : List Int} (hs : Sees w (.slice a ks.length c) (u8s ks)) (hk : ByteL ks) (h1 : ks.length = K) (h2 : vs.length = V) (hf : findK A ks = none) :
    Calls Try.prog 28 #[.pointer (some ⟨R, 0, none⟩), .slice a ks.length c, .slice vb vs.length vc, .int .u64 2] w fun e w' => e = .returned (.int .i64 6) ∧ But [] w w' := by
  obtain ⟨la, lc, c4, hP, c1, c2, c3, hlt⟩ := h.slot
  have hn : A.length ≤ 1024 := Nat.le_trans h.len h.bounds.2.2.2
  have HF := Lib.hid (refFind c4 hP (fun x hx => (h.keys x hx).1) hn hs hk)
  have HV := Lib.hid (findI_none hf)
  have q1 := eq_len h1
  have q2 := eq_len h2
  clear h hP hs hk hf h1 h2
  go_enter Try.func28, Try.ntmps28
  go_wp2_with fail
  refine (calls_val HF.out (v' := .int .i64 (-1)) (by rw [HV.out])).mono ?_
  rintro e w1 ⟨rfl, hb⟩
  have HB := Lib.hid hb
  clear hb
  go_wp2_with fail
  go_ret
  exact ⟨rfl, HB.out⟩
theorem roomy_lt {A : LSt} {N : Nat} (h : A.length ≤ N) (hN : 1 ≤ N) : (roomyA A N).length < N := by
  unfold roomyA
  split
  · rw [List.length_eraseIdx_of_lt (by omega)]; omega
  · omega
set_option maxRecDepth 100000 in
set_option maxHeartbeats 4000000 in
/-- A new key. -/
theorem RefL.upd_new (h : RefL w ok R K V N A rows) (hok : ∀ b, w.heap.size ≤ b → ok b) (a vb : Option Addr) (c vc : Nat) {ks vs : List Int} (hs : Sees w (.slice a ks.length c) (u8s ks)) (hk : ByteL ks) (hvs : Sees w (.slice vb vs.length vc) (u8s vs)) (hv : ByteL vs) (hko : ∀ b, (Value.slice a ks.length c).ownBlock = some b → ¬ ok b) (hvo : ∀ b, (Value.slice vb vs.length vc).ownBlock = some b → ¬ ok b) (f : Int) (h1 : ks.length = K) (h2 : vs.length = V) (h3 : ¬ 2 < f) (h4 : f ≠ 2) (hf : findK A ks = none) (hpn : (A.map (·.2)).Nodup) :
    Calls Try.prog 28 #[.pointer (some ⟨R, 0, none⟩), .slice a ks.length c, .slice vb vs.length vc, .int .u64 f] w fun e w' => e = .returned (.int .i64 0) ∧ RefL w' ok R K V N (roomyA A N ++ [(ks, leastA (roomyA A N) N)]) (rows.set (leastA (roomyA A N) N) vs) ∧ Turns ok w w' := by
  obtain ⟨i0, hin, hz0, hz1, hz2⟩ := info_parts (show (Try.prog.info? 80).map (fun i => (i.zero, i.size, i.bytes)) = some (some (.agg #[.string .empty, .int .i64 0]), 2, 24) by kernel_rfl)
  obtain ⟨la, lc, c4, hP, c1, c2, c3, hlt⟩ := h.slot
  have hn : A.length ≤ 1024 := Nat.le_trans h.len h.bounds.2.2.2
  have HH := Lib.hid h
  have HOK := Lib.hid hok
  have HF := Lib.hid (refFind c4 hP (fun x hx => (h.keys x hx).1) hn hs hk)
  have HV := Lib.hid (findI_none hf)
  have HN1 := Lib.hid h.bounds.2.2
  have HLE := Lib.hid h.len
  have HFU := Lib.hid (fun e : A.length = N => freeA_full e hpn (fun x hx => (h.keys x hx).2))
  have q1 := eq_len h1
  have q2 := eq_len h2
  have hf2 := flag_ne h4
  have HS2 : Hid (∀ w', But [R] w w' → Sees w' (.slice a ks.length c) (u8s ks)) := Lib.hid fun w' hb => hs.but hb (fun b hb' hm => hko b hb' (by have e : b = R := (by simpa using hm); rw [e]; exact h.okR))
  have HVS2 : Hid (∀ w', But [R] w w' → Sees w' (.slice vb vs.length vc) (u8s vs)) := Lib.hid fun w' hb => hvs.but hb (fun b hb' hm => hvo b hb' (by have e : b = R := (by simpa using hm); rw [e]; exact h.okR))
  have HKO : Hid (∀ (W w' : World) (g : Nat), Sees W (.slice a ks.length c) (u8s ks) → ok g → But [g] W w' → Sees w' (.slice a ks.length c) (u8s ks)) := Lib.hid fun W w' g hS hg hb => hS.but hb (fun b hb' hm => hko b hb' (by have e : b = g := (by simpa using hm); rw [e]; exact hg))
  have HV2 := Lib.hid h2
  have HVB := Lib.hid hv
  have HKB := Lib.hid hk
  have HRM := Lib.hid (roomy_lt h.len h.bounds.2.2.1)
  clear h hok hP hs hk hf h1 h2 hvs hv h4 hpn hko hvo
  go_enter Try.func28, Try.ntmps28
  go_wp2_with fail
  refine (calls_val HF.out (v' := .int .i64 (-1)) (by rw [HV.out])).mono ?_
  rintro e w1 ⟨rfl, hb⟩
  have HR1 := Lib.hid (HH.out.keep hb (by simp))
  have HB1 := Lib.hid hb
  obtain ⟨la1, lc1, k4, hP1, k1, k2, k3, -⟩ := HR1.out.slot
  have HFR := Lib.hid (refFree k3 k4 hP1 hn HN1.out.2)
  clear hb hP1
  go_wp2_with fail
  refine HFR.out.mono ?_
  rintro e w2 ⟨rfl, rfl⟩
  go_upto_if 63 with fail
  go_cut [] (fun wx => RefL wx ok R K V N (roomyA A N) rows ∧ But [R] w wx)
  case first =>
    by_cases hfull : A.length = N
    · have hfr := HFU.out hfull
      rw [hfr]
      have HO := Lib.hid (HR1.out.out (i := 0) (fun b hb => HOK.out b (Nat.le_trans HB1.out.size hb)) (by have := HN1.out.1; omega))
      have HFL := Lib.hid hfull
      clear hfr hfull
      go_wp2_with fail
      refine HO.out.mono ?_
      rintro e w3 ⟨rfl, hR3, hb3⟩
      have HR3 := Lib.hid hR3
      have HB3 := Lib.hid ((HB1.out.mono (by simp)).trans hb3 (fun x hx => .inl hx))
      clear hR3 hb3
      go_wp2_with fail
      go_meet
      exact ⟨by unfold roomyA; rw [if_pos HFL.out]; exact HR3.out, HB3.out⟩
    · obtain ⟨p, hp, -, hfr⟩ := freeA_ex (A := A) (N := N) (by have := HLE.out; omega)
      rw [hfr]
      have hp9 : ¬ (p : Int) < 0 := by omega
      have HFL := Lib.hid hfull
      clear hfr hfull hp
      go_wp2_with fail
      go_meet
      exact ⟨by unfold roomyA; rw [if_neg HFL.out]; exact HR1.out, HB1.out.mono (by simp)⟩
  case rest =>
    obtain ⟨hR2, hb2⟩ := hcut
    have HR2 := Lib.hid hR2
    have HB2 := Lib.hid hb2
    obtain ⟨B, hB⟩ : ∃ B, B = roomyA A N := ⟨_, rfl⟩
    rw [← hB] at HR2 HRM
    have HBE := Lib.hid hB
    obtain ⟨p, hpN, hlp, hfp⟩ := freeA_ex HRM.out
    have HLP := Lib.hid hlp
    obtain ⟨la2, lc2, m4, hP2, m1, m2, m3, -⟩ := HR2.out.slot
    have HBL : Hid (B.length ≤ 1024) := Lib.hid (by have := HRM.out; have := HN1.out.2; omega)
    have HFR2 := Lib.hid (refFree m3 m4 hP2 HBL.out HN1.out.2)
    obtain ⟨gv, ov, d, r, pg, po, pc, cur, hpl⟩ := HR2.out.place hpN
    have e5 := hpl.cell5
    have ep := hpl.cellp
    have HPL := Lib.hid hpl
    have hp0 : (0 : Int) ≤ p := by omega
    have hp1 : (p : Int) < N := by omega
    have HPN := Lib.hid hpN
    have HFP := Lib.hid hfp
    have HPOS : Hid (0 < (u8s vs).length → ∃ ad, vb = some ad ∧ ∀ j v, (u8s vs)[j]? = some v → wc.cell? (ad.add j) = some v) := Lib.hid fun h0 => sees_src (HVS2.out _ HB2.out) h0
    have HLN : Hid ((u8s vs).length = Nat.min vs.length V) := Lib.hid (by rw [u8s_len, HV2.out]; exact (Nat.min_self _).symm)
    have HFIT : Hid (po + (u8s vs).length ≤ cur.length) := Lib.hid (by rw [u8s_len, HV2.out]; have := hpl.fit; omega)
    have HG := Lib.hid hpl.cells
    have KEY : Hid (∀ w', w'.heap[pg]? = some (.cells (splice cur po (u8s vs)).toArray 5 (0, 0)) → But [pg] wc w' → RefL w' ok R K V N B (rows.set p vs) ∧ Turns ok w w' ∧ Sees w' (.slice a ks.length c) (u8s ks) ∧ w.heap.size ≤ w'.heap.size) := Lib.hid fun w' hg' hb' => by
      have h9 := HPL.out.turn w' 0 vs (by rw [HV2.out]; omega) HVB.out hg' hb'
      rw [setAt_all (by rw [HV2.out, HPL.out.len])] at h9
      exact ⟨h9, turns_trans (.of HB2.out (fun x hx => by have e : x = R := (by simpa using hx); rw [e]; exact HH.out.okR)) (.of hb' (fun x hx => by have e : x = pg := (by simpa using hx); rw [e]; exact HPL.out.okg)), HKO.out _ _ _ (HS2.out _ HB2.out) HPL.out.okg hb', Nat.le_trans HB2.out.size hb'.size⟩
    clear hR2 hb2 hB hlp hP2 hpl hpN hfp c1 c2 c3 c4 k1 k2 k3 k4 m1 m2
    go_wp2_with fail
    refine (calls_val HFR2.out (v' := .int .i64 p) (by rw [HFP.out])).mono ?_
    rintro e w4 ⟨rfl, rfl⟩
    go_upto_region 16 with ((with_reducible refine (show wpList _ _ _ (⟨some 76, _, _, _, _, _⟩ :: _) _ _ from ?_)); refine wpList_copy_but rfl (.tmp 74) (.tmp 75) 25 25 rfl 5 Try.underlying25 (by kernel_rfl) (some ⟨pg, po, none⟩) vb V pc vs.length vc rfl rfl pg po cur 5 HG.out (u8s vs) HLN.out (fun h => ⟨rfl, HPOS.out h⟩) HFIT.out (u8s_one vs) ?_; intro w5 hg5 hb5; obtain ⟨h5, t5, s5, z5⟩ := KEY.out w5 hg5 hb5; have H5 := Lib.hid h5; have T5 := Lib.hid t5; have S5 := Lib.hid s5; have Z5 := Lib.hid z5; clear hg5 hb5 h5 t5 s5 z5)
    obtain ⟨la5, lc5, n4, hP5, -, -, -, hlt5⟩ := H5.out.slot
    have HZ : Hid (But [] w5 (w5.alloc (.cells #[.string (strOfNums ks), .int .i64 p] 80)).drew) := Lib.hid (((But.refl [] w5).alloc _).drew)
    have HQ : Hid (OwnP (w5.alloc (.cells #[.string (strOfNums ks), .int .i64 p] 80)).drew 80 (.slice la5 B.length lc5) (enc B)) := Lib.hid (hP5.but HZ.out (by simp))
    have HFT : Hid ((enc B).length ≤ 1024) := Lib.hid (by rw [enc_len]; exact HBL.out)
    have HSRC := Lib.hid (src_oneP (i0 := i0) hz1 w5 (strOfNums ks) p)
    have hcv : (convert 25 9 (.slice a ks.length c)).run Try.prog w5.drew = .ok (.string (strOfNums ks)) w5.drew :=
      conv_str Try.underlying25 Try.underlying5 Try.underlying9 (S5.out.but ((But.refl [] w5).drew) (by simp))
    have KEY2 : Hid (∀ (v' : Value) (w7 : World), AppP (w5.alloc (.cells #[.string (strOfNums ks), .int .i64 p] 80)).drew w7 80 (.slice la5 B.length lc5) v' (enc B) [(strOfNums ks, p)] → ∃ a3 c3, v' = .slice a3 (B.length + 1) c3 ∧ w7.frozen? ⟨R, 4, none⟩ = false ∧ (∃ u, w7.cell? ⟨R, 4, none⟩ = some u) ∧ RefL (w7.setCell ⟨R, 4, none⟩ (.slice a3 (B.length + 1) c3)) ok R K V N (B ++ [(ks, p)]) (rows.set p vs) ∧ Turns ok w5 (w7.setCell ⟨R, 4, none⟩ (.slice a3 (B.length + 1) c3))) := Lib.hid fun v' w7 hap => H5.out.grown (fun b hb => HOK.out b (Nat.le_trans Z5.out hb)) HZ.out n4 (x := (ks, p)) ⟨HKB.out, HPN.out⟩ HRM.out hap
    obtain ⟨key, hkey⟩ : ∃ key, key = strOfNums ks := ⟨_, rfl⟩
    rw [← hkey] at HQ HSRC hcv KEY2
    clear hP5 e5 ep hkey
    go_region_law (refine step_append_p (by rfl) _ _ 74 (by rfl) 80 i0 (.agg #[.string .empty, .int .i64 0]) 24 Try.underlying74 hin hz0 hz1 hz2 rfl _ (enc B) (by rfl) HQ.out [(key, p)] _ (by rfl) HSRC.out (app_fitsP HFT.out).1 (app_fitsP HFT.out).2 ?_; intro v' w7 hap; obtain ⟨a7, c7, rfl, gf7, ⟨u7, gc7⟩, h7, t7⟩ := KEY2.out _ _ hap; have H7 := Lib.hid h7; have T7 := Lib.hid t7; clear hap h7 t7)
    all_goals
      go_wp2_with fail
      go_ret
      exact ⟨rfl, by rw [← HBE.out, HLP.out]; exact H7.out, turns_trans T5.out T7.out⟩
/-- Any Update. -/
theorem RefL.update (h : RefL w ok R K V N A rows) (hok : ∀ b, w.heap.size ≤ b → ok b) (a vb : Option Addr) (c vc : Nat) {ks vs : List Int} (hs : Sees w (.slice a ks.length c) (u8s ks)) (hk : ByteL ks) (hvs : Sees w (.slice vb vs.length vc) (u8s vs)) (hv : ByteL vs) (hko : 0 < ks.length → ∀ b, (Value.slice a ks.length c).ownBlock = some b → ¬ ok b) (hvo : 0 < vs.length → ∀ b, (Value.slice vb vs.length vc).ownBlock = some b → ¬ ok b) (f : Int) (hpn : (A.map (·.2)).Nodup) :
    Calls Try.prog 28 #[.pointer (some ⟨R, 0, none⟩), .slice a ks.length c, .slice vb vs.length vc, .int .u64 f] w fun e w' => e = .returned (.int .i64 (updA K V N A rows ks vs f).1) ∧ RefL w' ok R K V N (updA K V N A rows ks vs f).2.1 (updA K V N A rows ks vs f).2.2 ∧ Turns ok w w' := by
  by_cases hbad : ks.length ≠ K ∨ vs.length ≠ V ∨ 2 < f
  · have e1 : updA K V N A rows ks vs f = (2, A, rows) := by unfold updA; rw [if_pos hbad]
    rw [e1]
    refine (h.upd_bad a vb c vc ks vs f hbad).mono ?_
    rintro e w' ⟨rfl, rfl⟩
    exact ⟨rfl, h, .refl _ _⟩
  · have h1 : ks.length = K := by omega
    have h2 : vs.length = V := by omega
    have h3 : ¬ 2 < f := by omega
    cases hf : findK A ks with
    | none =>
      by_cases hf2 : f = 2
      · have e1 : updA K V N A rows ks vs f = (6, A, rows) := by unfold updA; rw [if_neg hbad]; simp [hf, hf2]
        rw [e1]
        subst hf2
        refine (h.upd_miss2 a vb c vc hs hk h1 h2 hf).mono ?_
        rintro e w' ⟨rfl, hb⟩
        exact ⟨rfl, h.keep hb (by simp), turns_new hb⟩
      · have e1 : updA K V N A rows ks vs f = (0, roomyA A N ++ [(ks, leastA (roomyA A N) N)], rows.set (leastA (roomyA A N) N) vs) := by unfold updA; rw [if_neg hbad]; simp [hf, hf2]
        rw [e1]
        exact h.upd_new hok a vb c vc hs hk hvs hv (hko (by have := h.bounds.1.1; omega)) (hvo (by have := h.bounds.2.1.1; omega)) f h1 h2 h3 hf2 hf hpn
    | some k =>
      refine (h.upd_hit hok a vb c vc hs hk hvs hv f h1 h2 h3 hf).mono ?_
      rintro e w' ⟨rfl, h5, t5⟩
      by_cases hf1 : f = 1
      · have e1 : updA K V N A rows ks vs f = (7, A, rows) := by unfold updA; rw [if_neg hbad]; simp [hf, hf1]
        rw [e1]
        rw [if_pos hf1, if_pos hf1] at h5
        exact ⟨by rw [if_pos hf1], h5, t5⟩
      · have e1 : updA K V N A rows ks vs f = (0, youngA A k, rows.set (placeA A k) vs) := by unfold updA; rw [if_neg hbad]; simp [hf, hf1]
        rw [e1]
        rw [if_neg hf1, if_neg hf1] at h5
        exact ⟨by rw [if_neg hf1], h5, t5⟩
end
end Go.Proofs.Ytifgfnifadmoaaa.M
namespace Go.Proofs.Ytifgfnifadmoaaa.M
open Go.RowKit
set_option linter.unusedVariables false
set_option linter.unusedSectionVars false
set_option linter.unusedSimpArgs false
attribute [local go_sem ↓] Go.wp_at_zero Go.wp_at_succ
section
variable {w : World} {ok : Nat → Prop} {R K V N : Nat} {A : LSt} {rows : List (List Int)}
theorem RefL.value (h : RefL w ok R K V N A rows) (p : Int) :
    Calls Try.prog 22 #[.pointer (some ⟨R, 0, none⟩), .int .i64 p] w fun e w' => ∃ v, e = .returned (.tuple #[v, .int .i64 (valA N rows p).2]) ∧ NewRow w w' v (valA N rows p).1 ∧ But [] w w' := by
  obtain ⟨la, lc, c4, hP, c1, c2, c3, hlt⟩ := h.slot
  have HH := Lib.hid h
  by_cases h0 : p < 0
  · have e1 : valA N rows p = ([], 6) := if_pos (.inl h0)
    rw [e1]
    clear h hP c4
    go_enter Try.func22, Try.ntmps22
    go_wp2_with fail
    go_ret2
    exact ⟨_, rfl, newRow_nil _ _, But.refl _ _⟩
  · by_cases h1 : (N : Int) ≤ p
    · have e1 : valA N rows p = ([], 6) := if_pos (.inr h1)
      rw [e1]
      clear h hP c4
      go_enter Try.func22, Try.ntmps22
      go_wp2_with fail
      go_ret2
      exact ⟨_, rfl, newRow_nil _ _, But.refl _ _⟩
    · obtain ⟨q, rfl⟩ : ∃ q : Nat, p = q := ⟨p.toNat, by omega⟩
      have hqN : q < N := by omega
      obtain ⟨gv, ov, d, r, g, o, c, cur, hpl⟩ := h.place hqN
      have e1 : valA N rows q = (r, 0) := by
        unfold valA
        rw [if_neg (by omega)]
        simp [hpl.row]
      rw [e1]
      obtain ⟨j0, ki, kz0, kz1, kz2⟩ := info_parts (show (Try.prog.info? 5).map (fun i => (i.zero, i.size, i.bytes)) = some (some (.int .u8 0), 1, 1) by kernel_rfl)
      have e5 := hpl.cell5
      have ep := hpl.cellp
      have hgv := cell_lt ep
      have hrl : r.length ≤ 1024 := by rw [hpl.len]; exact h.bounds.2.1.2
      have HRL : Hid ((u8s r).length ≤ 1024) := Lib.hid (by rw [u8s_len]; exact hrl)
      have HS : Hid (Src Try.prog j0.size 25 (.slice (some ⟨g, o, none⟩) V c) (u8s r).length (u8s r) (w.alloc (.cells #[] 5))) := Lib.hid (src_sees (P := Try.prog) Try.underlying25 kz1 (hpl.sees.but ((But.refl [] w).alloc (.cells #[] 5)) (by simp)) (u8s_one r))
      have HQ0 : Hid (OwnQ (w.alloc (.cells #[] 5)) 5 (.slice (some ⟨w.heap.size, 0, none⟩) 0 0) []) := Lib.hid (fresh_atL w 5)
      have KEY : Hid (∀ (v' : Value) (w5 : World), Appended (w.alloc (.cells #[] 5)) w5 5 (.slice (some ⟨w.heap.size, 0, none⟩) 0 0) v' [] (u8s r) → NewRow w w5 v' r ∧ But [] w w5) := Lib.hid fun v' w5 hap => by
        obtain ⟨a, c, e1, e2, e3, e4⟩ := freshL (w0 := w) ((But.refl [] w).alloc _) (by rw [size_alloc]; omega) hap
        rw [u8s_len] at e1 e2 e3
        exact ⟨⟨a, c, e1, e2, e3⟩, e4⟩
      have q0 : (0 : Int) ≤ q := by omega
      have q1 : (q : Int) < N := by omega
      clear h hP c4 hpl hrl h0 h1 hqN
      go_enter Try.func22, Try.ntmps22
      go_wp2_with (at_builtin; refine wpList_append_row (by rfl) _ _ 25 (by rfl) 5 j0 (.int .u8 0) 1 Try.underlying25 ki kz0 kz1 kz2 rfl _ [] (by rfl) HQ0.out (u8s r) _ (by rfl) HS.out (by have := HRL.out; unfold maxLen; have h0 : ([] : List Value).length = 0 := rfl; omega) (by have := HRL.out; have h0 : ([] : List Value).length = 0 := rfl; omega) ?_; intro v' w5 hap; obtain ⟨hn5, hb5⟩ := KEY.out _ _ hap; obtain ⟨a5, c5, rfl, g5⟩ := id hn5; have HN5 := Lib.hid hn5; have HB5 := Lib.hid hb5; clear hap hn5 hb5 g5)
      go_ret2
      exact ⟨_, rfl, HN5.out, HB5.out⟩
theorem set_num {V n : Nat} (h : V ≤ 1024) (hn : n ≤ 140737488351232) : wrap64 ((V : Int) - n) = (V : Int) - n := by rw [wrap64]; omega
set_option maxRecDepth 100000 in
set_option maxHeartbeats 4000000 in
theorem RefL.set (h : RefL w ok R K V N A rows) (p off : Int) (a : Option Addr) (c : Nat) {bs : List Int} (hs : Sees w (.slice a bs.length c) (u8s bs)) (hby : ByteL bs) (hn : bs.length ≤ 140737488351232) :
    Calls Try.prog 26 #[.pointer (some ⟨R, 0, none⟩), .int .i64 p, .int .i64 off, .slice a bs.length c] w fun e w' => e = .returned (.int .i64 (setA V N rows p off bs).1) ∧ RefL w' ok R K V N A (setA V N rows p off bs).2 ∧ Turns ok w w' := by
  obtain ⟨la, lc, c4, hP, c1, c2, c3, hlt⟩ := h.slot
  have HH := Lib.hid h
  have hw := set_num h.bounds.2.1.2 hn
  by_cases h0 : p < 0
  · have e1 : setA V N rows p off bs = (6, rows) := if_pos (.inl h0)
    rw [e1]
    clear h hP c4
    go_enter Try.func26, Try.ntmps26
    go_wp2_with fail
    go_ret
    exact ⟨rfl, HH.out, .refl _ _⟩
  · by_cases h1 : (N : Int) ≤ p
    · have e1 : setA V N rows p off bs = (6, rows) := if_pos (.inr h1)
      rw [e1]
      clear h hP c4
      go_enter Try.func26, Try.ntmps26
      go_wp2_with fail
      go_ret
      exact ⟨rfl, HH.out, .refl _ _⟩
    · have hpn : ¬ (p < 0 ∨ (N : Int) ≤ p) := by omega
      have h1' : p < (N : Int) := by omega
      have h0' : 0 ≤ p := by omega
      by_cases ho0 : off < 0
      · have e1 : setA V N rows p off bs = (32, rows) := by unfold setA; rw [if_neg hpn, if_pos (.inl ho0)]
        rw [e1]
        clear h hP c4 hpn
        go_enter Try.func26, Try.ntmps26
        go_wp2_with fail
        go_ret
        exact ⟨rfl, HH.out, .refl _ _⟩
      · by_cases ho1 : (V : Int) - bs.length < off
        · have e1 : setA V N rows p off bs = (32, rows) := by unfold setA; rw [if_neg hpn, if_pos (.inr ho1)]
          rw [e1]
          clear h hP c4 hpn
          go_enter Try.func26, Try.ntmps26
          go_wp2_with fail
          go_ret
          exact ⟨rfl, HH.out, .refl _ _⟩
        · obtain ⟨q, rfl⟩ : ∃ q : Nat, p = q := ⟨p.toNat, by omega⟩
          obtain ⟨of, rfl⟩ : ∃ q : Nat, off = q := ⟨off.toNat, by omega⟩
          have hqN : q < N := by omega
          obtain ⟨gv, ov, d, r, g, o, pc, cur, hpl⟩ := h.place hqN
          have e1 : setA V N rows q of bs = (0, rows.set q (setAt r of bs)) := by unfold setA; rw [if_neg hpn, if_neg (by omega)]; simp [hpl.row]
          rw [e1]
          have e5 := hpl.cell5
          have ep := hpl.cellp
          have hfit := hpl.fit
          have hok := hpl.okg
          have HPOS : Hid (0 < (u8s bs).length → ∃ ad, a = some ad ∧ ∀ j v, (u8s bs)[j]? = some v → w.cell? (ad.add j) = some v) := Lib.hid fun h0 => sees_src hs h0
          have HFIT : Hid (o + of + (u8s bs).length ≤ cur.length) := Lib.hid (by rw [u8s_len]; omega)
          have HLN : Hid ((u8s bs).length = Nat.min bs.length (V - of)) := Lib.hid (by rw [u8s_len]; exact (Nat.min_eq_left (by omega)).symm)
          have HG := Lib.hid hpl.cells
          have HK : Hid (∀ w', w'.heap[g]? = some (.cells (splice cur (o + of) (u8s bs)).toArray 5 (0, 0)) → But [g] w w' → RefL w' ok R K V N A (rows.set q (setAt r of bs)) ∧ Turns ok w w') := Lib.hid fun w' hg' hb' => ⟨hpl.turn w' of bs (by omega) hby hg' hb', .of hb' (fun x hx => by have e : x = g := (by simpa using hx); rw [e]; exact hok)⟩
          have q1 : of ≤ V := by omega
          have q2 : V ≤ pc := hfit.2.1
          have q3 : (of : Int) ≤ V := by omega
          have q4 : of ≤ pc := by omega
          by_cases hov : of = pc
          · have hb0 : bs = [] := List.eq_nil_of_length_eq_zero (by omega)
            have HF : Hid (RefL w ok R K V N A (rows.set q (setAt r of bs)) ∧ Turns ok w w) := Lib.hid (HK.out w (by
              rw [hb0]
              have : splice cur (o + of) (u8s []) = cur := by unfold splice u8s; simp
              rw [this]
              exact HG.out) (But.refl _ _))
            have hVo : V = of := by omega
            have hw0 : wrap64 (of : Int) = of := by have := h.bounds.2.1.2; rw [wrap64]; omega
            clear hw
            subst hb0
            subst hov
            subst hVo
            clear h hP c4 hpl hok HPOS HFIT HLN HG HK e1 hs hby hpn hqN hfit
            go_enter Try.func26, Try.ntmps26
            go_wp2_with ((with_reducible refine (show wpList _ _ _ (⟨some 44, _, _, _, _, _⟩ :: _) _ _ from ?_)); refine wpList_copy_nothing rfl (.tmp 42) (.tmp 43) 25 25 rfl 5 Try.underlying25 (by kernel_rfl) _ _ _ _ _ _ rfl rfl (by simp) ?_)
            go_ret
            exact ⟨rfl, HF.out⟩
          · have hov' : ¬ (pc = of) := fun e => hov e.symm
            clear h hP c4 hpl hok e1 hs hby hpn hqN hfit hov
            go_enter Try.func26, Try.ntmps26
            go_wp2_with ((with_reducible refine (show wpList _ _ _ (⟨some 44, _, _, _, _, _⟩ :: _) _ _ from ?_)); refine wpList_copy_but rfl (.tmp 42) (.tmp 43) 25 25 rfl 5 Try.underlying25 (by kernel_rfl) (some ⟨g, o + of, none⟩) a (V - of) (pc - of) bs.length c rfl rfl g (o + of) cur 5 HG.out (u8s bs) HLN.out (fun h => ⟨rfl, HPOS.out h⟩) HFIT.out (u8s_one bs) ?_; intro w5 hg5 hb5; have HF := Lib.hid (HK.out w5 hg5 hb5); clear hg5 hb5)
            go_ret
            exact ⟨rfl, HF.out⟩
end
/-- The keys that were told so far. -/
structure KeysR (w W : World) (A : LSt) (k : Nat) (a : Option Addr) (c : Nat) (vals : List Value) : Prop where
  own : OwnQ W 25 (.slice a vals.length c) vals
  len : vals.length = k
  low : ∀ b, (Value.slice a vals.length c).ownBlock = some b → w.heap.size ≤ b
  each : ∀ (i : Nat) (v : Value) (x : List Int × Nat), vals[i]? = some v → A[i]? = some x → KeyRow w.heap.size W v (strOfNums x.1)
  but : But [] w W
theorem KeysR.step {w W wz w7 : World} {A : LSt} {k : Nat} {a : Option Addr} {c : Nat} {vals : List Value} {v' : Value} {x : List Int × Nat} {c0 : Nat} (h : KeysR w W A k a c vals) (hx : A[k]? = some x) (hz : But [] W wz) (hrow : wz.heap[W.heap.size]? = some (.cells (bytesRow (strOfNums x.1) c0) 5 ((bytesRow (strOfNums x.1) c0).size, (bytesRow (strOfNums x.1) c0).size + 1))) (hc0 : (strOfNums x.1).size ≤ c0)
    (hap : Appended wz w7 25 (.slice a vals.length c) v' vals [.slice (some ⟨W.heap.size, 0, none⟩) (strOfNums x.1).size c0]) :
    ∃ a7 c7, v' = .slice a7 (vals.length + 1) c7 ∧ ∃ vals', vals'.length = vals.length + 1 ∧ KeysR w w7 A (k + 1) a7 c7 vals' := by
  obtain ⟨hq, hc⟩ := hap
  obtain ⟨a7, c7, e⟩ := hq.form
  have hl : (vals ++ [Value.slice (some ⟨W.heap.size, 0, none⟩) (strOfNums x.1).size c0]).length = vals.length + 1 := by rw [List.length_append]; rfl
  rw [hl] at e
  subst e
  have hk : ∃ L, But L W w7 ∧ But L wz w7 ∧ (∀ y ∈ L, (Value.slice a vals.length c).ownBlock = some y) ∧ ∀ b, (Value.slice a7 (vals.length + 1) c7).ownBlock = some b → w.heap.size ≤ b := by
    rcases hc with ⟨a0, cap, q1, q2, _, hb⟩ | ⟨hn, hb⟩
    · refine ⟨_, (hz.mono (by simp)).trans hb (fun y hy => .inl hy), hb, fun y hy => by simpa using hy, fun b hb' => h.low b ?_⟩
      rw [q1]
      rw [q2] at hb'
      exact (own_addr _ _ _ _ _).trans hb'
    · refine ⟨[], hz.trans hb (by simp), hb, (by simp), fun b hb' => ?_⟩
      rw [hn] at hb'
      cases hb'
      exact Nat.le_trans h.but.size hz.size
  obtain ⟨L, hb, hbz, hL, hlow⟩ := hk
  have hno : ∀ y ∈ L, ∀ C f, W.heap[y]? ≠ some (.cells C 5 f) := fun y hy C f e => by
    obtain ⟨cur, hg⟩ := h.own.tag y (hL y hy)
    rw [hg] at e
    simp only [Option.some.injEq, Obj.cells.injEq] at e
    exact absurd e.2.1 (by decide)
  refine ⟨a7, c7, rfl, vals ++ [.slice (some ⟨W.heap.size, 0, none⟩) (strOfNums x.1).size c0], hl, by rw [hl]; exact hq, by rw [hl, h.len], by rw [hl]; exact hlow, fun i v y hv hy => ?_, h.but.trans hb (fun y hy => .inr (h.low y (hL y hy)))⟩
  by_cases hi : i < vals.length
  · rw [List.getElem?_append_left hi] at hv
    exact (h.each i v y hv hy).but hb hno
  · rw [List.getElem?_append_right (by omega)] at hv
    cases hii : i - vals.length with
    | zero =>
      rw [hii] at hv
      simp at hv
      subst hv
      have e : i = k := by have := h.len; omega
      subst e
      rw [hx] at hy
      cases hy
      exact ⟨W.heap.size, c0, rfl, hc0, h.but.size, hbz.heap hrow (fun hm => by
        obtain ⟨cur, hg⟩ := h.own.tag W.heap.size (hL _ hm)
        have := lt_of hg
        omega)⟩
    | succ m => rw [hii] at hv; simp at hv
theorem KeysR.sees {w W : World} {A : LSt} {a : Option Addr} {c : Nat} {vals : List Value} (h : KeysR w W A A.length a c vals) (hA : ∀ x ∈ A, ByteL x.1) : SeesRows W (.slice a A.length c) ((A.map (·.1)).map u8s) := by
  refine ⟨vals, by rw [← h.len]; exact h.own.sees, by simp [h.len], fun i v r hv hr => ?_⟩
  rw [List.getElem?_map, List.getElem?_map] at hr
  obtain ⟨y, hy, rfl⟩ := Option.map_eq_some_iff.1 hr
  obtain ⟨x, hx, rfl⟩ := Option.map_eq_some_iff.1 hy
  exact keyRow_sees (h.each i v x hv hx) (hA x (List.mem_of_getElem? hx))
theorem src_two {i0 : TypeInfo} (hz1 : i0.size = 1) (W Wb : World) (v : Value) (hv : v.oneCell' = true) (g : Nat) (hsl : Wb.heap[g]? = some (.cells #[v] 25)) : Src Try.prog i0.size 26 (.slice (some ⟨g, 0, none⟩) 1 1) [v].length [v] Wb := by
  rw [hz1]
  refine Src.ofSlice _ Try.underlying26 _ 1 1 _ (by simp) (fun j u hj => ?_) (by intro u hu; simp at hu; subst hu; exact hv)
  cases j with
  | zero =>
    simp at hj
    subst hj
    rw [add_at]
    exact cl_of hsl 0
  | succ j => simp at hj
theorem app_fitsK {n : Nat} (h : n ≤ 1024) : n + 1 ≤ maxLen ∧ (n + 1) * 24 ≤ 140737488355328 := by
  unfold maxLen
  omega
set_option maxRecDepth 100000 in
set_option maxHeartbeats 4000000 in
theorem RefL.keysR {w : World} {ok : Nat → Prop} {R K V N : Nat} {A : LSt} {rows : List (List Int)} (h : RefL w ok R K V N A rows) :
    Calls Try.prog 27 #[.pointer (some ⟨R, 0, none⟩)] w fun e w' => ∃ a c, e = .returned (.slice a A.length c) ∧ SeesRows w' (.slice a A.length c) ((A.map (·.1)).map u8s) ∧ But [] w w' := by
  obtain ⟨i0, hi, hz0, hz1, hz2⟩ := info_parts (show (Try.prog.info? 25).map (fun i => (i.zero, i.size, i.bytes)) = some (some (.slice none 0 0), 1, 24) by kernel_rfl)
  have hcv : ∀ (wz : World) (s : ByteArray), (convert 9 25 (.string s)).run Try.prog wz = .ok (.slice (some ⟨wz.heap.size, 0, none⟩) s.size (grownCap wz s.size 0 5)) (wz.drew.alloc (.cells (bytesRow s (grownCap wz s.size 0 5)) 5 ((bytesRow s (grownCap wz s.size 0 5)).size, (bytesRow s (grownCap wz s.size 0 5)).size + 1))) := fun wz s => run_bytes_of_string wz 9 25 5 s Try.underlying9 Try.underlying25 Try.underlying5
  have HCV := Lib.hid hcv
  obtain ⟨la, lc, c4, hP, -, -, -, hlt⟩ := h.slot
  have hn : A.length ≤ 1024 := Nat.le_trans h.len h.bounds.2.2.2
  have HKB := Lib.hid (fun x hx => (h.keys x hx).1)
  have HP := Lib.hid hP
  have H4 := Lib.hid c4
  clear h hP hcv c4
  go_enter Try.func27, Try.ntmps27
  go_wp2_with fail
  go_loopw [3, 4] (fun out i wr => ∃ (k : Nat) (a : Option Addr) (c : Nat) (vals : List Value), k ≤ A.length ∧ i = .int .i64 k ∧ out = .slice a vals.length c ∧ KeysR w wr A k a c vals) (fun _ i _ => A.length - (intOf i).toNat)
  case atStart => exact ⟨0, none, 0, [], Nat.zero_le _, rfl, rfl, OwnQ.nil _ _, rfl, (fun b hb => by cases hb), (fun i v x hv => by simp at hv), But.refl _ _⟩
  case round =>
    obtain ⟨k, a, c, vals, hkl, rfl, rfl, hk⟩ := hrel
    have d4 : wr.cell? ⟨R, 4, none⟩ = some (.slice la A.length lc) := cell_but hk.but H4.out (by simp)
    have HK := Lib.hid hk
    clear hk
    by_cases hlk : k < A.length
    · obtain ⟨hk0, hk1, hw1, hw2⟩ := find_nums hlk hn
      obtain ⟨x, hx⟩ : ∃ x, A[k]? = some x := ⟨_, List.getElem?_eq_getElem hlk⟩
      obtain ⟨g, rfl⟩ := HP.out.addr (by omega)
      have d1 := ((HP.out.but HK.out.but (by simp)).at2 (enc_get hx)).1
      have hgl := cell_lt d1
      obtain ⟨key, hkey⟩ : ∃ key, key = strOfNums x.1 := ⟨_, rfl⟩
      rw [← hkey] at d1
      obtain ⟨c0, hc0⟩ : ∃ c0, c0 = grownCap wr key.size 0 5 := ⟨_, rfl⟩
      have hge : key.size ≤ c0 := by rw [hc0]; exact grownCap_ge _ _ _ _
      obtain ⟨Wb, hWb⟩ : ∃ Wb, Wb = ((wr.alloc (.cells (bytesRow key c0) 5 ((bytesRow key c0).size, (bytesRow key c0).size + 1))).alloc (.cells #[.slice (some ⟨wr.heap.size, 0, none⟩) key.size c0] 25)).drew := ⟨_, rfl⟩
      have hbW : But [] wr Wb := by rw [hWb]; exact (((But.refl [] wr).alloc _).alloc _).drew
      have hrowW : Wb.heap[wr.heap.size]? = some (.cells (bytesRow key c0) 5 ((bytesRow key c0).size, (bytesRow key c0).size + 1)) := by rw [hWb]; exact al_keep (al_at wr _) _
      have hsl : Wb.heap[wr.heap.size + 1]? = some (.cells #[.slice (some ⟨wr.heap.size, 0, none⟩) key.size c0] 25) := by rw [hWb]; exact al_eq _ _ _ (by rw [size_alloc])
      have HSRC := Lib.hid (src_two (i0 := i0) hz1 wr Wb (.slice (some ⟨wr.heap.size, 0, none⟩) key.size c0) rfl (wr.heap.size + 1) hsl)
      have HQ := Lib.hid (HK.out.own.but hbW (by simp))
      have HVL : Hid (vals.length ≤ 1024) := Lib.hid (by rw [HK.out.len]; omega)
      have KEY : Hid (∀ (v' : Value) (w7 : World), Appended Wb w7 25 (.slice a vals.length c) v' vals [.slice (some ⟨wr.heap.size, 0, none⟩) key.size c0] → ∃ a7 c7, v' = .slice a7 (vals.length + 1) c7 ∧ ∃ vals', vals'.length = vals.length + 1 ∧ KeysR w w7 A (k + 1) a7 c7 vals') := Lib.hid fun v' w7 hap => by
        rw [hkey] at hap hrowW hge
        exact HK.out.step hx hbW hrowW hge hap
      have hcv' := HCV.out wr key
      rw [← hc0] at hcv'
      rw [hWb] at HSRC HQ KEY
      have HLK := Lib.hid hlk
      clear hx hkey hc0 hge hWb hbW hrowW hsl hlk
      go_wp2_with (at_builtin; refine wpList_append_row (by rfl) _ _ 26 (by rfl) 25 i0 (.slice none 0 0) 24 Try.underlying26 hi hz0 hz1 hz2 rfl _ vals (by rfl) HQ.out [Value.slice (some ⟨wr.heap.size, 0, none⟩) key.size c0] _ (by rfl) HSRC.out (app_fitsK HVL.out).1 (app_fitsK HVL.out).2 ?_; intro v' w7 hap; obtain ⟨a7, c7, rfl, vals', e7, h7⟩ := KEY.out _ _ hap; rw [← e7]; have H7 := Lib.hid h7; clear hap h7 e7)
      go_roundw
      case rel => exact ⟨k + 1, a7, c7, vals', HLK.out, by go_num, rfl, H7.out⟩
      case measure => first | exact find_meas HLK.out | exact (by rw [hw1]; exact find_meas HLK.out)
    · obtain rfl : k = A.length := num_eqR hkl hlk
      have HVL := Lib.hid HK.out.len
      clear hlk hkl
      go_wp2_with fail
      go_ret
      exact ⟨a, c, congrArg (fun n => Ending.returned (.slice a n c)) HVL.out, HK.out.sees HKB.out, HK.out.but⟩
end Go.Proofs.Ytifgfnifadmoaaa.M
