/-
  CellBack: the walk (printed by mkcback2.py).
-/
import Derived.Test.YtmaeiifhmngllaaAwake
import Derived.Test.YtmaeiifhmngllaaBackA
import Derived.Test.YtmaeiifhmngllaaLight
import Derived.Test.YtmaeiifhmngllaaPick
namespace Go.Proofs.Ytmaeiifhmngllaa.M
open Go.RowKit
set_option linter.unusedVariables false
set_option linter.unusedSectionVars false
set_option linter.unusedSimpArgs false
theorem sees_far {w : World} {P : Nat} {a : Option Addr} {c : Nat} {bs : List Int} (hs : Sees w (.slice a bs.length c) (u8s bs)) (hP : w.heap.size ≤ P) : ∀ ad, a = some ad → bs ≠ [] → ad.block ≠ P := fun ad had hne => by
  subst had
  obtain ⟨x, l, rfl⟩ := List.exists_cons_of_ne_nil hne
  obtain ⟨a', c', he, hx⟩ := sees_shape hs
  obtain ⟨ad', rfl, h3⟩ := hx 0 _ rfl
  simp only [Value.slice.injEq] at he
  obtain ⟨he, _⟩ := he
  cases he
  have h4 := cell_lt h3
  rw [block_of_add] at h4
  omega
theorem sees_cap {w : World} {v : Value} {bs : List Int} (hs : Sees w v (u8s bs)) : ∃ a c, v = .slice a bs.length c ∧ bs.length ≤ c := by
  rcases hs with ⟨rfl, h0⟩ | ⟨ad, c, rfl, hc, hx⟩
  · obtain rfl : bs = [] := by cases bs with | nil => rfl | cons => cases h0
    exact ⟨none, 0, rfl, Nat.le_refl _⟩
  · rw [u8s_len] at hc
    exact ⟨some ad, c, by rw [u8s_len], hc⟩
theorem Sees.far {w w' : World} {P : Nat} {v : Value} {xs : List Value} (hs : Sees w v xs) (hb : But [P] w w') (hP : w.heap.size ≤ P) (hb0 : But [] w w') : Sees w' v xs := hs.but hb0 (by simp)
theorem cut_word {n : Nat} {wd : Int} (hs : sizeB n = true) (h8 : (n : Int) < 8) (hw : 0 ≤ wd ∧ wd < 18446744073709551616) : ∃ M : Int, IntKind.u64.wrap (2 ^ (8 * n)) = M ∧ M ≠ 0 ∧ wd.tmod M = leV (wordBs wd n) := by
  obtain ⟨X, rfl⟩ := Int.eq_ofNat_of_zero_le hw.1
  have hn : n = 1 ∨ n = 2 ∨ n = 4 := by
    unfold sizeB at hs
    have := of_decide_eq_true hs
    omega
  rw [leV_word]
  rcases hn with rfl | rfl | rfl
  · exact ⟨256, by decide +kernel, by decide, by rw [Int.tmod_eq_emod_of_nonneg (by omega)]; rfl⟩
  · exact ⟨65536, by decide +kernel, by decide, by rw [Int.tmod_eq_emod_of_nonneg (by omega)]; rfl⟩
  · exact ⟨4294967296, by decide +kernel, by decide, by rw [Int.tmod_eq_emod_of_nonneg (by omega)]; rfl⟩
theorem cut_word8 {n : Nat} {wd : Int} (h8 : n = 8) (hw : 0 ≤ wd ∧ wd < 18446744073709551616) : leV (wordBs wd n) = wd := by
  subst h8
  obtain ⟨X, rfl⟩ := Int.eq_ofNat_of_zero_le hw.1
  have hX : X < 256 ^ 8 := by have := hw.2; have h : (256 : Nat) ^ 8 = 18446744073709551616 := by decide +kernel
                              omega
  rw [leV_word, Nat.mod_eq_of_lt hX]
theorem size_pos {n : Nat} (hs : sizeB n = true) : 0 < n := by
  unfold sizeB at hs
  have := of_decide_eq_true hs
  omega
theorem byte_zero (wd : Int) : IntKind.u8.wrap wd = byteOf wd 0 := by
  rw [IntKind.wrap_u8]
  unfold byteOf
  simp
theorem newRow_first {w w' : World} {v : Value} {wd : Int} {n : Nat} (h : NewRow w w' v (wordBs wd n)) (hn : 0 < n) : ∃ g c, v = .slice (some ⟨g, 0, none⟩) n c ∧ w'.cell? ⟨g, 0, none⟩ = some (.int .u8 (byteOf wd 0)) := by
  obtain ⟨a, c, rfl, h⟩ := h
  have h0 : (wordBs wd n)[0]? = some (byteOf wd 0) := by
    unfold wordBs
    rw [List.getElem?_map, List.getElem?_range hn]
    rfl
  rcases h.2 with ⟨_, h2⟩ | ⟨g, cap, cur, h1, _⟩
  · rw [wordBs_len] at h2
    omega
  · cases h1
    refine ⟨g, c, by rw [wordBs_len], ?_⟩
    have h3 := h.cells (g := g) rfl 0 _ (u8s_at h0)
    rwa [add_at] at h3
/-- What stands between two deeds. -/
structure CBI (w W3 : World) (Q o n : Nat) (c : CV) (S : Stk) (wr : World) : Prop where
  blk : Blk wr Q 57 833 (S.val true)
  held : Held S o n c
  but : But [Q] W3 wr
theorem CBI.to {w W3 : World} {Q o n : Nat} {c : CV} {S : Stk} {wr wx : World} (h : CBI w W3 Q o n c S wr) (hb : But [] wr wx) : CBI w W3 Q o n c S wx :=
  ⟨h.blk.but hb (by simp), h.held, (h.but.trans (hb.mono (M := [Q]) (by simp)) (fun x hx => .inl hx))⟩
set_option maxRecDepth 100000 in
set_option maxHeartbeats 4000000 in
theorem cellBack_no (off n k wd rg of_ : Int) (v : Value) (l : List Deed) (w : World) (hs : SeesDeeds w v l) (hwf : (Lit.int .u8 k).wf = true) (hE : storeE off n ⟨k, wd, rg, of_⟩ ≠ 0) :
    Calls Try.prog 6 #[.int .i64 off, .int .i64 n, .agg #[.int .u8 k, .int .u64 wd, .int .i64 rg, .int .i64 of_], v] w fun e w' => e = .returned (.bool true) ∧ But [] w w' := by
  obtain ⟨a, c, rfl, hD⟩ := hs
  have HD := Lib.hid hD
  have HWF := Lib.hid hwf
  clear hD hwf
  go_enter Try.func6, Try.ntmps6
  go_wp2_with fail
  refine (awake _).mono ?_
  rintro e w1 ⟨rfl, hb1⟩
  have HX1 := Lib.hid (hb1.heap (al_at _ _) (by simp))
  have HB1 := Lib.hid (((But.refl [] w).alloc (.cells #[.int .u8 k, .int .u64 wd, .int .i64 rg, .int .i64 of_] 33)).trans hb1 (by simp))
  clear hb1
  have HL := Lib.hid (light (.slice a l.length c) l w1 ⟨a, c, rfl, fun i d h => (HD.out i d h).keep HB1.out⟩)
  go_wp2_with fail
  refine HL.out.mono ?_
  rintro e w2 ⟨b, rfl, hbt, rfl⟩
  cases b with
  | false =>
    clear HL hbt
    go_wp2_with fail
    go_ret
    exact ⟨rfl, HB1.out⟩
  | true =>
    have HLT := Lib.hid (hbt rfl)
    clear HL hbt
    go_wp2_with fail
    refine (new_c w1).mono ?_
    rintro e w2 ⟨rfl, hB, hb2⟩
    have hQw : w.heap.size < w1.heap.size := lt_of HX1.out
    obtain ⟨Q, hQ⟩ : ∃ Q, Q = w1.heap.size := ⟨_, rfl⟩
    rw [← hQ] at hB hQw ⊢
    have HX2 := Lib.hid (hb2.heap HX1.out (by simp))
    have HB2 := Lib.hid (HB1.out.trans hb2 (by simp))
    have HS := Lib.hid (Store_c Q S0 off n ⟨k, wd, rg, of_⟩ w2 HWF.out hB)
    have d0 := cl_of HX2.out 0
    have d1 := cl_of HX2.out 1
    have d2 := cl_of HX2.out 2
    have d3 := cl_of HX2.out 3
    simp only [List.getElem?_toArray, List.getElem?_cons_zero, List.getElem?_cons_succ] at d0 d1 d2 d3
    have HQW := Lib.hid hQw
    clear hB hb2 hQ hQw HX1 HB1
    unfold CV.agg at HS
    go_wp2_with fail
    refine HS.out.mono ?_
    rintro e w3 ⟨rfl, hB, hb3⟩
    clear HS d0 d1 d2 d3
    have hSS : storeS S0 off n ⟨k, wd, rg, of_⟩ = S0 := by unfold storeS; rw [if_pos hE]
    rw [hSS] at hB
    have HLD := Lib.hid (Load_c Q S0 off n w3 s0_inv hB)
    have HB3 := Lib.hid (HB2.out.trans hb3 (fun x hx => .inr (by have := HQW.out; simp at hx; omega)))
    have hE1 : (storeE off n ⟨k, wd, rg, of_⟩ == 0) = false := by simpa using hE
    have hE2 : (loadE S0 off n == 0) = false := by simpa using s0_load off n
    obtain ⟨E, hEE⟩ : ∃ E, E = storeE off n ⟨k, wd, rg, of_⟩ := ⟨_, rfl⟩
    rw [← hEE] at hE1 ⊢
    clear hB hb3 hSS hE hEE
    go_wp2_with fail
    refine HLD.out.mono ?_
    rintro e w4 ⟨rfl, hb4⟩
    have HB4 := Lib.hid (HB3.out.trans hb4 (by simp))
    clear hb4 HLD
    obtain ⟨E2, hEE⟩ : ∃ E, E = loadE S0 off n := ⟨_, rfl⟩
    obtain ⟨V2, hVV⟩ : ∃ V, V = loadV S0 off n := ⟨_, rfl⟩
    rw [← hEE] at hE2 ⊢
    rw [← hVV]
    clear hEE hVV
    unfold CV.agg
    go_wp2_with fail
    go_ret
    refine ⟨?_, HB4.out.alloc _⟩
    simp [bne, hE2]
set_option maxRecDepth 100000 in
set_option maxHeartbeats 8000000 in
theorem cellBack_yes (o n : Nat) (k wd rg of_ : Int) (v : Value) (l : List Deed) (w : World) (hs : SeesDeeds w v l) (hwf : (Lit.int .u8 k).wf = true) (hww : 0 ≤ wd ∧ wd < 18446744073709551616) (hE : storeE o n ⟨k, wd, rg, of_⟩ = 0) :
    Calls Try.prog 6 #[.int .i64 (o : Int), .int .i64 (n : Int), .agg #[.int .u8 k, .int .u64 wd, .int .i64 rg, .int .i64 of_], v] w fun e w' => e = .returned (.bool true) ∧ But [] w w' := by
  obtain ⟨hon, hsz, hfirst⟩ := first_hold o n ⟨k, wd, rg, of_⟩ hE
  have HE := Lib.hid hE
  have HWW := Lib.hid hww
  have HSZ := Lib.hid hsz
  have HF : Hid (Held (storeS S0 o n ⟨k, wd, rg, of_⟩) o n ⟨k, wd, rg, of_⟩) := Lib.hid hfirst
  clear hE hww hsz hfirst
  obtain ⟨a, c, rfl, hD⟩ := hs
  have HD := Lib.hid hD
  have HWF := Lib.hid hwf
  clear hD hwf
  go_enter Try.func6, Try.ntmps6
  go_wp2_with fail
  refine (awake _).mono ?_
  rintro e w1 ⟨rfl, hb1⟩
  have HX1 := Lib.hid (hb1.heap (al_at _ _) (by simp))
  have HB1 := Lib.hid (((But.refl [] w).alloc (.cells #[.int .u8 k, .int .u64 wd, .int .i64 rg, .int .i64 of_] 33)).trans hb1 (by simp))
  clear hb1
  have HL := Lib.hid (light (.slice a l.length c) l w1 ⟨a, c, rfl, fun i d h => (HD.out i d h).keep HB1.out⟩)
  go_wp2_with fail
  refine HL.out.mono ?_
  rintro e w2 ⟨b, rfl, hbt, rfl⟩
  cases b with
  | false =>
    clear HL hbt
    go_wp2_with fail
    go_ret
    exact ⟨rfl, HB1.out⟩
  | true =>
    have HLT := Lib.hid (hbt rfl)
    clear HL hbt
    go_wp2_with fail
    refine (new_c w1).mono ?_
    rintro e w2 ⟨rfl, hB, hb2⟩
    have hQw : w.heap.size < w1.heap.size := lt_of HX1.out
    obtain ⟨Q, hQ⟩ : ∃ Q, Q = w1.heap.size := ⟨_, rfl⟩
    rw [← hQ] at hB hQw ⊢
    have HX2 := Lib.hid (hb2.heap HX1.out (by simp))
    have HB2 := Lib.hid (HB1.out.trans hb2 (by simp))
    have HS := Lib.hid (Store_c Q S0 o n ⟨k, wd, rg, of_⟩ w2 HWF.out hB)
    have d0 := cl_of HX2.out 0
    have d1 := cl_of HX2.out 1
    have d2 := cl_of HX2.out 2
    have d3 := cl_of HX2.out 3
    simp only [List.getElem?_toArray, List.getElem?_cons_zero, List.getElem?_cons_succ] at d0 d1 d2 d3
    have HQW := Lib.hid hQw
    clear hB hb2 hQ hQw HX1 HB1
    unfold CV.agg at HS
    go_wp2_with fail
    refine HS.out.mono ?_
    rintro e w3 ⟨rfl, hB, hb3⟩
    clear HS d0 d1 d2 d3
    rw [HE.out]
    have HI0 : Hid (CBI w w3 Q o n ⟨k, wd, rg, of_⟩ (storeS S0 o n ⟨k, wd, rg, of_⟩) w3) := Lib.hid ⟨hB, HF.out, But.refl _ _⟩
    have HB3 := Lib.hid (HB2.out.trans hb3 (fun x hx => .inr (by have := HQW.out; simp at hx; omega)))
    have HX3 := Lib.hid (hb3.heap HX2.out (by have := HQW.out; simp only [List.mem_singleton]; omega))
    have HQ3 : Hid (∀ wr, But [Q] w3 wr → But [] w wr) := Lib.hid fun wr h => HB3.out.trans h (fun x hx => .inr (by have := HQW.out; simp at hx; omega))
    have HX : Hid (∀ wr, But [Q] w3 wr → wr.heap[w.heap.size]? = some (.cells #[.int .u8 k, .int .u64 wd, .int .i64 rg, .int .i64 of_] 33)) := Lib.hid fun wr h => h.heap HX3.out (by have := HQW.out; simp only [List.mem_singleton]; omega)
    have hl60 : l.length ≤ 60 := HLT.out.1
    clear hB hb3 HE HF HX2 HB2 HX3 HB3
    go_wp2_with fail
    go_loopw [12] (fun i wr => ∃ (j : Nat) (S : Stk), j ≤ l.length ∧ i = .int .i64 j ∧ CBI w w3 Q o n ⟨k, wd, rg, of_⟩ S wr) (fun i _ => l.length - (intOf i).toNat)
    case atStart => exact ⟨0, _, by omega, rfl, HI0.out⟩
    case round =>
      obtain ⟨j, S, hj, rfl, hI⟩ := hrel
      have HI := Lib.hid hI
      clear hI HI0
      have hj0 : (0 : Int) ≤ j := by omega
      by_cases hlt : j < l.length
      · have hj1 : (j : Int) < l.length := by omega
        have hw1 : wrap64 ((j : Int) + 1) = (j : Int) + 1 := by rw [wrap64]; omega
        obtain ⟨d, hd⟩ : ∃ d, l[j]? = some d := ⟨_, List.getElem?_eq_getElem hlt⟩
        have h600 := HLT.out.2 j d hd
        obtain ⟨g, ao, rfl, ⟨c0, c1, c2, c3, c4, c5, c6, c7⟩, ⟨wk, wo, ws, wc, _⟩, h4, hby, _⟩ := (HD.out j d hd).keep (HQ3.out wr HI.out.but)
        obtain ⟨ab, cb, e3, hcb⟩ := sees_cap h4
        rw [e3] at c7 h4
        have hfar := sees_far (P := Q) (hs := by
          obtain ⟨_, _, _, _, _, h5, _⟩ := HD.out j d hd
          rw [e3] at h5
          exact h5) (Nat.le_of_lt HQW.out)
        have HFAR := Lib.hid hfar
        have HSE := Lib.hid h4
        have HBY := Lib.hid hby
        have HCB := Lib.hid hcb
        obtain ⟨wk1, wk2⟩ := wf_i64 wk
        have HWC := Lib.hid wc
        have HPK := Lib.hid (fun W => pick d.kind 8 W (by decide) (by decide) wk1 wk2)
        have h6 : d.bs.length ≤ 600 := h600
        clear hd h600 wk wo ws wc h4 hby e3 hcb hfar wk1 wk2 hlt
        obtain ⟨kd, doff, dsz, ⟨ck, cw, cr, co⟩, db, bs⟩ := d
        simp only at c0 c1 c2 c3 c4 c5 c6 c7 h6
        go_wp2_with fail
        obtain ⟨W1, hW1⟩ : ∃ W1, W1 = wr.alloc (.cells #[.int .i64 kd, .int .i64 doff, .int .i64 dsz, .int .u8 ck, .int .u64 cw, .int .i64 cr, .int .i64 co, .slice ab bs.length cb] 39) := ⟨_, rfl⟩
        rw [← hW1]
        have hbx : W1.heap[wr.heap.size]? = some (.cells #[.int .i64 kd, .int .i64 doff, .int .i64 dsz, .int .u8 ck, .int .u64 cw, .int .i64 cr, .int .i64 co, .slice ab bs.length cb] 39) := by rw [hW1]; exact al_at _ _
        have HBW : Hid (But [] wr W1) := Lib.hid (by rw [hW1]; exact (But.refl _ _).alloc _)
        have x0 := cl_of hbx 0
        have x1 := cl_of hbx 1
        have x2 := cl_of hbx 2
        have x3 := cl_of hbx 3
        have x4 := cl_of hbx 4
        have x5 := cl_of hbx 5
        have x6 := cl_of hbx 6
        have x7 := cl_of hbx 7
        simp only [List.getElem?_toArray, List.getElem?_cons_zero, List.getElem?_cons_succ] at x0 x1 x2 x3 x4 x5 x6 x7
        clear hW1 hbx c0 c1 c2 c3 c4 c5 c6 c7
        refine (HPK.out W1).mono ?_
        rintro e w4 ⟨rfl, rfl⟩
        by_cases h4 : 4 ≤ kd % 8
        · have h4'' := h4
          go_upto_region 16 with fail
          refine cbk16 (many := (bs.length : Int)) _ hon (Lib.hid x1) ?_
          intro z64 z65 z66 z67 z68 z69 z70 z71 z72 z73 z74 z75 z76 z77 z78 z79 z80 z81 z82 z83 z84 z85 z86 z87 z88 z89 z90
          cases hsk : skipB o n doff (bs.length : Int) with
          | true =>
            have HI2 := Lib.hid (HI.out.to HBW.out)
            clear hsk
            go_wp2_with fail
            go_roundw
            case rel => exact ⟨j + 1, S, by omega, by go_num, HI2.out⟩
            case measure => simp [intOf]; omega
          | false =>
            have HSK := Lib.hid hsk
            clear hsk
            go_wp2_with fail
            refine (HPK.out W1).mono ?_
            rintro e w4 ⟨rfl, rfl⟩
            have HOP := Lib.hid (Write_c Q S doff ab cb bs W1 (HI.out.to HBW.out).blk (HSE.out.but HBW.out (by simp)) HFAR.out HCB.out (by omega))
            have HH := Lib.hid (HI.out.held.write hon doff HBY.out HSK.out)
            go_wp2_with fail
            refine HOP.out.mono ?_
            rintro e w5 ⟨rfl, hB5, hb5⟩
            have HI5 : Hid (CBI w w3 Q o n ⟨k, wd, rg, of_⟩ _ w5) := Lib.hid ⟨hB5, HH.out, (HI.out.to HBW.out).but.trans hb5 (fun x hx => .inl hx)⟩
            clear hB5 hb5 HOP HH
            go_wp2_with fail
            go_roundw
            case rel => exact ⟨j + 1, _, by omega, by go_num, HI5.out⟩
            case measure => simp [intOf]; omega
        · have h4' : decide (4 ≤ kd % 8) = false := decide_eq_false h4
          go_upto_region 16 with fail
          refine cbk16 (many := dsz) _ hon (Lib.hid x1) ?_
          intro z64 z65 z66 z67 z68 z69 z70 z71 z72 z73 z74 z75 z76 z77 z78 z79 z80 z81 z82 z83 z84 z85 z86 z87 z88 z89 z90
          cases hsk : skipB o n doff dsz with
          | true =>
            have HI2 := Lib.hid (HI.out.to HBW.out)
            clear hsk
            go_wp2_with fail
            go_roundw
            case rel => exact ⟨j + 1, S, by omega, by go_num, HI2.out⟩
            case measure => simp [intOf]; omega
          | false =>
            have HSK := Lib.hid hsk
            clear hsk
            go_wp2_with fail
            refine (HPK.out W1).mono ?_
            rintro e w4 ⟨rfl, rfl⟩
            have HOP := Lib.hid (Store_c Q S doff dsz ⟨ck, cw, cr, co⟩ W1 HWC.out (HI.out.to HBW.out).blk)
            have HH := Lib.hid (HI.out.held.store hon doff dsz ⟨ck, cw, cr, co⟩ HSK.out)
            unfold CV.agg at HOP
            go_wp2_with fail
            refine HOP.out.mono ?_
            rintro e w5 ⟨rfl, hB5, hb5⟩
            have HI5 : Hid (CBI w w3 Q o n ⟨k, wd, rg, of_⟩ _ w5) := Lib.hid ⟨hB5, HH.out, (HI.out.to HBW.out).but.trans hb5 (fun x hx => .inl hx)⟩
            clear hB5 hb5 HOP HH
            go_wp2_with fail
            go_roundw
            case rel => exact ⟨j + 1, _, by omega, by go_num, HI5.out⟩
            case measure => simp [intOf]; omega
      · obtain rfl : j = l.length := by omega
        have HXR := Lib.hid (HX.out wr HI.out.but)
        have d0 := cl_of HXR.out 0
        have d1 := cl_of HXR.out 1
        have d2 := cl_of HXR.out 2
        have d3 := cl_of HXR.out 3
        simp only [List.getElem?_toArray, List.getElem?_cons_zero, List.getElem?_cons_succ] at d0 d1 d2 d3
        have HLD := Lib.hid (Load_c Q S o n wr HI.out.held.inv HI.out.blk)
        rcases HI.out.held with ⟨k1, hW⟩ | ⟨k0, k1, h8, ho, hP⟩
        · simp only at k1 hW
          subst k1
          obtain ⟨x, hx⟩ : ∃ x, x = leV (wordBs wd n) := ⟨_, rfl⟩
          have HLE : Hid (loadE S o n = 0) := Lib.hid (hW.load HSZ.out hon).1
          have HLV : Hid (loadV S o n = ⟨1, x, 0, 0⟩) := Lib.hid (by rw [hx]; exact (hW.load HSZ.out hon).2)
          have HRE := Lib.hid (hW.read hon).1
          have HRR := Lib.hid (hW.read hon).2
          have HXX := Lib.hid hx
          clear hx hW
          by_cases h8 : (n : Int) < 8
          · obtain ⟨M, hM, hM0, hT⟩ := cut_word HSZ.out h8 HWW.out
            rw [← HXX.out] at hT
            have hm8 : wrap64 (8 * (n : Int)) = 8 * (n : Int) := by rw [wrap64]; omega
            go_wp2_with fail
            refine HLD.out.mono ?_
            rintro e w4 ⟨rfl, hb4⟩
            rw [HLE.out, HLV.out]
            have HI4 := Lib.hid (HI.out.to (hb4.alloc (.cells #[.int .u8 1, .int .u64 x, .int .i64 0, .int .i64 0] 33)))
            have HB4 := Lib.hid hb4
            have HXR4 := Lib.hid (HX.out _ HI4.out.but)
            have e0 := cl_of HXR4.out 0
            have e1 := cl_of HXR4.out 1
            simp only [List.getElem?_toArray, List.getElem?_cons_zero, List.getElem?_cons_succ] at e0 e1
            clear hb4 HLD d0 d1 d2 d3
            unfold CV.agg
            go_wp2_with fail
            refine (Read_c Q _ o n _ HI4.out.held.inv HI4.out.blk).mono ?_
            rintro e w5 ⟨v, rfl, hn, hb5⟩
            rw [HRE.out]
            rw [HRR.out] at hn
            obtain ⟨g, cg, rfl, hg⟩ := newRow_first hn (size_pos HSZ.out)
            have HG := Lib.hid hg
            have HI5 := Lib.hid (HI4.out.to hb5)
            have H15 := Lib.hid (hb5.heap (al_at _ _) (by simp))
            clear hb5 hn hg e0 e1
            go_wp2_with fail
            refine cbk26 (k := 1) (wd := wd) (rg := rg) (of_ := of_) _ (Lib.hid (HX.out _ HI5.out.but)) (Lib.hid HG.out) (Lib.hid (by have := size_pos HSZ.out; omega)) (Lib.hid (byte_zero wd)) ?_
            intro z138 z139 z140 z141 z142 z143 z144 z145 z146 z147 z148 z149 z150 z151 z152 z153 w6 hb6
            have HI6 := Lib.hid (HI5.out.to hb6)
            have H156 := Lib.hid (hb6.heap H15.out (by simp))
            clear hb6
            go_wp2_with fail
            refine cbk28 _ H156 ?_
            intro z155 z156 z157 z158 z159 z160 z161 z162 w7 hb7
            have HI7 := Lib.hid (HI6.out.to hb7)
            clear hb7
            go_wp2_with fail
            go_ret
            exact ⟨rfl, HQ3.out _ HI7.out.but⟩
          · have h8' : n = 8 := by
              have h := HSZ.out
              unfold sizeB at h
              have := of_decide_eq_true h
              omega
            have hxw := cut_word8 h8' HWW.out
            rw [← HXX.out] at hxw
            have hxw' := hxw.symm
            clear hxw
            subst hxw'
            clear h8'
            go_wp2_with fail
            refine HLD.out.mono ?_
            rintro e w4 ⟨rfl, hb4⟩
            rw [HLE.out, HLV.out]
            have HI4 := Lib.hid (HI.out.to (hb4.alloc (.cells #[.int .u8 1, .int .u64 wd, .int .i64 0, .int .i64 0] 33)))
            have HB4 := Lib.hid hb4
            have HXR4 := Lib.hid (HX.out _ HI4.out.but)
            have e0 := cl_of HXR4.out 0
            have e1 := cl_of HXR4.out 1
            simp only [List.getElem?_toArray, List.getElem?_cons_zero, List.getElem?_cons_succ] at e0 e1
            clear hb4 HLD d0 d1 d2 d3
            unfold CV.agg
            go_wp2_with fail
            refine (Read_c Q _ o n _ HI4.out.held.inv HI4.out.blk).mono ?_
            rintro e w5 ⟨v, rfl, hn, hb5⟩
            rw [HRE.out]
            rw [HRR.out] at hn
            obtain ⟨g, cg, rfl, hg⟩ := newRow_first hn (size_pos HSZ.out)
            have HG := Lib.hid hg
            have HI5 := Lib.hid (HI4.out.to hb5)
            have H15 := Lib.hid (hb5.heap (al_at _ _) (by simp))
            clear hb5 hn hg e0 e1
            go_wp2_with fail
            refine cbk26 (k := 1) (wd := wd) (rg := rg) (of_ := of_) _ (Lib.hid (HX.out _ HI5.out.but)) (Lib.hid HG.out) (Lib.hid (by have := size_pos HSZ.out; omega)) (Lib.hid (byte_zero wd)) ?_
            intro z138 z139 z140 z141 z142 z143 z144 z145 z146 z147 z148 z149 z150 z151 z152 z153 w6 hb6
            have HI6 := Lib.hid (HI5.out.to hb6)
            have H156 := Lib.hid (hb6.heap H15.out (by simp))
            clear hb6
            go_wp2_with fail
            refine cbk28 _ H156 ?_
            intro z155 z156 z157 z158 z159 z160 z161 z162 w7 hb7
            have HI7 := Lib.hid (HI6.out.to hb7)
            clear hb7
            go_wp2_with fail
            go_ret
            exact ⟨rfl, HQ3.out _ HI7.out.but⟩
        · have hk1 : (k == 1) = false := by simpa using k1
          have hk0 : k ≠ 0 := k0
          have e8 : (n : Int) = 8 := by omega
          have on8 : o + 8 ≤ 512 := by omega
          have HLE : Hid (loadE S o n = 0) := Lib.hid (by rw [e8]; exact (hP.load hk0 ho on8).1)
          have HLV : Hid (loadV S o n = ⟨k, wd, rg, of_⟩) := Lib.hid (by rw [e8]; exact (hP.load hk0 ho on8).2)
          have HL1 := Lib.hid (hP.load1 hk0 ho on8)
          have HRD := Lib.hid (hP.read hk0 ho on8)
          have ho1 : wrap64 ((o : Int) + 1) = (o : Int) + 1 := by rw [wrap64]; omega
          clear hP e8 h8 k0 k1 hk0
          go_wp2_with fail
          refine HLD.out.mono ?_
          rintro e w4 ⟨rfl, hb4⟩
          rw [HLE.out, HLV.out]
          have HI4 := Lib.hid (HI.out.to (hb4.alloc (.cells #[.int .u8 k, .int .u64 wd, .int .i64 rg, .int .i64 of_] 33)))
          have HXR4 := Lib.hid (HX.out _ HI4.out.but)
          have e0 := cl_of HXR4.out 0
          have H15 : Hid ((w4.alloc (.cells #[.int .u8 k, .int .u64 wd, .int .i64 rg, .int .i64 of_] 33)).heap[w4.heap.size]? = some (.cells #[.int .u8 k, .int .u64 wd, .int .i64 rg, .int .i64 of_] 33)) := Lib.hid (al_at _ _)
          simp only [List.getElem?_toArray, List.getElem?_cons_zero, List.getElem?_cons_succ] at e0
          have HLD2 := Lib.hid (Load_c Q S ((o : Int) + 1) 1 _ HI4.out.held.inv HI4.out.blk)
          clear hb4 HLD d0 d1 d2 d3
          unfold CV.agg
          go_wp2_with fail
          refine HLD2.out.mono ?_
          rintro e w5 ⟨rfl, hb5⟩
          rw [HL1.out]
          obtain ⟨V2, hVV⟩ : ∃ V, V = loadV S ((o : Int) + 1) 1 := ⟨_, rfl⟩
          rw [← hVV]
          have HI5 := Lib.hid (HI4.out.to (hb5.alloc (.cells #[.int .u8 V2.k, .int .u64 V2.w, .int .i64 V2.r, .int .i64 V2.o] 33)))
          have H155 := Lib.hid ((hb5.alloc (.cells #[.int .u8 V2.k, .int .u64 V2.w, .int .i64 V2.r, .int .i64 V2.o] 33)).heap H15.out (by simp))
          have HRR := Lib.hid (Read_c Q S o 8 _ HI5.out.held.inv HI5.out.blk)
          clear hb5 hVV HLD2 e0
          unfold CV.agg
          go_wp2_with fail
          refine HRR.out.mono ?_
          rintro e w6 ⟨v, rfl, hn, hb6⟩
          rw [HRD.out]
          have HI6 := Lib.hid (HI5.out.to hb6)
          have q := hb6.heap H155.out (by simp)
          have q0 := cl_of q 0
          have q1 := cl_of q 1
          have q2 := cl_of q 2
          have q3 := cl_of q 3
          have p0 := cl_of (HX.out _ HI6.out.but) 0
          have p1 := cl_of (HX.out _ HI6.out.but) 1
          have p2 := cl_of (HX.out _ HI6.out.but) 2
          have p3 := cl_of (HX.out _ HI6.out.but) 3
          simp only [List.getElem?_toArray, List.getElem?_cons_zero, List.getElem?_cons_succ] at q0 q1 q2 q3 p0 p1 p2 p3
          clear hb6 hn q HRR
          go_wp2_with fail
          go_ret
          exact ⟨rfl, HQ3.out _ HI6.out.but⟩
theorem wf_u64 {n : Int} (h : (Lit.int .u64 n).wf = true) : 0 ≤ n ∧ n < 18446744073709551616 := by
  simp only [Lit.wf, Bool.and_eq_true, decide_eq_true_eq] at h
  exact ⟨h.1, Int.lt_of_le_of_lt h.2 (by decide)⟩
theorem cellBack_walk (w : World) (off n : Int) (x : CV) (v : Value) (l : List Deed) (ho : (Lit.int .i64 off).wf = true) (hn : (Lit.int .i64 n).wf = true) (hx : CellWf x) (hs : SeesDeeds w v l) (hl : l.length ≤ 1759218604440) :
    Calls Try.prog 6 #[.int .i64 off, .int .i64 n, x.agg, v] w fun e w' => e = .returned (.bool true) ∧ Below w.heap.size w w' := by
  have hgo : Calls Try.prog 6 #[.int .i64 off, .int .i64 n, x.agg, v] w fun e w' => e = .returned (.bool true) ∧ But [] w w' := by
    obtain ⟨k, wd, rg, of_⟩ := x
    by_cases hE : storeE off n ⟨k, wd, rg, of_⟩ = 0
    · obtain ⟨h1, _, h2⟩ := storeE_ok hE
      obtain ⟨o, rfl⟩ := Int.eq_ofNat_of_zero_le h1
      obtain ⟨m, rfl⟩ := Int.eq_ofNat_of_zero_le h2
      exact cellBack_yes o m k wd rg of_ v l w hs hx.1 (wf_u64 hx.2.1) hE
    · exact cellBack_no off n k wd rg of_ v l w hs hx.1 hE
  exact hgo.mono fun _ _ ⟨he, hb⟩ => ⟨he, hb.below (Nat.le_refl _) (by simp)⟩
end Go.Proofs.Ytmaeiifhmngllaa.M
