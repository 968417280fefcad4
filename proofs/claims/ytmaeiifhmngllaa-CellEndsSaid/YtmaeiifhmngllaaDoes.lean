/-
  CellDoes: the walk (printed by mkcdoes.py).
-/
import Derived.Test.YtmaeiifhmngllaaRefAll
import Derived.Deep.RegionHeld3
import Derived.Deep.DrawnRows
namespace Go.Proofs.Ytmaeiifhmngllaa.M
open Go.RowKit
set_option linter.unusedVariables false
set_option linter.unusedSectionVars false
set_option linter.unusedSimpArgs false
attribute [local go_sem ↓] Go.wp_at_zero Go.wp_at_succ
set_option maxRecDepth 100000 in
set_option maxHeartbeats 16000000 in
theorem cellDoes_go (v : Value) (l : List Deed) (w : World) (hs : SeesDeeds w v l) :
    Calls Try.prog 3 #[v] w fun e w' => e = .returned (.bool true) ∧ But [] w w' := by
  obtain ⟨a, c, rfl, hD⟩ := hs
  have HD := Lib.hid hD
  clear hD
  have hv := zero_r
  have HV0 := Lib.hid vr0_blk
  have hvs := vr0_size
  obtain ⟨V, hV⟩ : ∃ V, V = VR0 := ⟨_, rfl⟩
  rw [← hV] at hv HV0 hvs
  clear hV
  go_enter Try.func3, Try.ntmps3
  go_wp2_with fail
  refine (awake _).mono ?_
  rintro e w1 ⟨rfl, hb1⟩
  have HB1 := Lib.hid hb1
  clear hb1
  have HL := Lib.hid (light (.slice a l.length c) l w1 ⟨a, c, rfl, fun i d h => (HD.out i d h).keep HB1.out⟩)
  go_wp2_with fail
  refine HL.out.mono ?_
  rintro e w2 ⟨b, rfl, hbt, rfl⟩
  cases b with
  | false =>
    clear HL hbt hv hvs
    go_wp2_with fail
    go_ret
    exact ⟨rfl, HB1.out⟩
  | true =>
    have HLT := Lib.hid (hbt rfl)
    clear HL hbt
    go_wp2_with fail
    refine (new_c w1).mono ?_
    rintro e w2 ⟨rfl, hB, hb2⟩
    have hz1 := HB1.out.size
    have hz2 := hB.lt
    have HBN := Lib.hid hB
    have HB2 := Lib.hid hb2
    obtain ⟨Q, hQ⟩ : ∃ Q, Q = w1.heap.size := ⟨_, rfl⟩
    rw [← hQ] at HBN hz2 ⊢
    have HQW : Hid (w.heap.size ≤ Q ∧ Q < w2.heap.size ∧ w.heap.size ≤ w2.heap.size) := Lib.hid (by omega)
    clear hB hb2 hz1 hz2 hQ
    go_wp2_with fail
    obtain ⟨W3, hW3⟩ : ∃ W3, W3 = w2.alloc (.cells V 36) := ⟨_, rfl⟩
    rw [← hW3]
    obtain ⟨P, hP⟩ : ∃ P, P = w2.heap.size := ⟨_, rfl⟩
    rw [← hP] at HQW ⊢
    have HQP : Hid (Q ≠ P) := Lib.hid (by have := HQW.out; omega)
    have HH0 : Hid (DoH W3 Q P S0 R0 W3) := Lib.hid ⟨by rw [hW3]; exact HBN.out.but ((But.refl [] w2).alloc _) (by simp), by rw [hW3, hP]; exact HV0.out w2, But.refl _ _⟩
    have HQ3 : Hid (∀ wr, But [Q, P] W3 wr → But [] w wr) := Lib.hid fun wr h => ((HB1.out.trans HB2.out (by simp)).trans (by rw [hW3]; exact (But.refl [] w2).alloc _ : But [] w2 W3) (by simp)).trans h (fun x hx => .inr (by have := HQW.out; simp at hx; omega))
    have hl60 : l.length ≤ 60 := HLT.out.1
    clear hv hvs hW3 hP HBN HB2 HV0
    go_loopw [5] (fun i wr => ∃ (j : Nat) (S : Stk) (R : RStk), j ≤ l.length ∧ i = .int .i64 j ∧ Rel S R ∧ DoH W3 Q P S R wr) (fun i _ => l.length - (intOf i).toNat)
    case atStart => exact ⟨0, _, _, by omega, rfl, rel_0, HH0.out⟩
    case round =>
      obtain ⟨j, S, R, hj, rfl, hrl, hH⟩ := hrel
      have HH := Lib.hid hH
      have HREL := Lib.hid hrl
      clear hH hrl HH0
      have hj0 : (0 : Int) ≤ j := by omega
      by_cases hlt : j < l.length
      · have hj1 : (j : Int) < l.length := by omega
        have hw1 : wrap64 ((j : Int) + 1) = (j : Int) + 1 := by rw [wrap64]; omega
        obtain ⟨d, hd⟩ : ∃ d, l[j]? = some d := ⟨_, List.getElem?_eq_getElem hlt⟩
        have h600 := HLT.out.2 j d hd
        obtain ⟨g, ao, rfl, ⟨c0, c1, c2, c3, c4, c5, c6, c7⟩, ⟨wk, wo, ws, wc, _⟩, h4, hby, _⟩ := (HD.out j d hd).keep (HQ3.out wr HH.out.but)
        obtain ⟨ab, cb, e3, hcb⟩ := sees_cap h4
        rw [e3] at c7 h4
        have hfar : ∀ X, w.heap.size ≤ X → ∀ ad, ab = some ad → d.bs ≠ [] → ad.block ≠ X := fun X hX => sees_far (P := X) (hs := by
          obtain ⟨_, _, _, _, _, h5, _⟩ := HD.out j d hd
          rw [e3] at h5
          exact h5) hX
        have HFQ := Lib.hid (hfar Q HQW.out.1)
        have HFP := Lib.hid (hfar P HQW.out.2.2)
        have HSE := Lib.hid h4
        have HBY := Lib.hid hby
        have HCB := Lib.hid hcb
        obtain ⟨wk1, wk2⟩ := wf_i64 wk
        have HWC := Lib.hid wc
        have HPK := Lib.hid (fun W => pick d.kind 8 W (by decide) (by decide) wk1 wk2)
        have h6 : d.bs.length ≤ 600 := h600
        clear hd h600 wk wo ws wc h4 hby e3 hcb hfar wk1 wk2 hlt
        obtain ⟨kd, doff, dsz, ⟨ck, cw, cr, co⟩, db, bs⟩ := d
        simp only at c0 c1 c2 c3 c4 c5 c6 c7 h6
        go_wp2_with fail
        obtain ⟨W1, hW1⟩ : ∃ W1, W1 = wr.alloc (.cells #[.int .i64 kd, .int .i64 doff, .int .i64 dsz, .int .u8 ck, .int .u64 cw, .int .i64 cr, .int .i64 co, .slice ab bs.length cb] 39) := ⟨_, rfl⟩
        rw [← hW1]
        have hbx : W1.heap[wr.heap.size]? = some (.cells #[.int .i64 kd, .int .i64 doff, .int .i64 dsz, .int .u8 ck, .int .u64 cw, .int .i64 cr, .int .i64 co, .slice ab bs.length cb] 39) := by rw [hW1]; exact al_at _ _
        have hbw : But [] wr W1 := by rw [hW1]; exact (But.refl _ _).alloc _
        have HW := Lib.hid (HH.out.to hbw)
        have HSW := Lib.hid (HSE.out.but hbw (by simp))
        have HX := Lib.hid hbx
        have HZ := Lib.hid (And.intro HH.out.blk.lt HH.out.rblk.lt)
        have x0 := cl_of HX.out 0
        have x1 := cl_of HX.out 1
        have x2 := cl_of HX.out 2
        have x3 := cl_of HX.out 3
        have x4 := cl_of HX.out 4
        have x5 := cl_of HX.out 5
        have x6 := cl_of HX.out 6
        have x7 := cl_of HX.out 7
        simp only [List.getElem?_toArray, List.getElem?_cons_zero, List.getElem?_cons_succ] at x0 x1 x2 x3 x4 x5 x6 x7
        clear hW1 hbx hbw c0 c1 c2 c3 c4 c5 c6 c7 HSE HH
        refine (HPK.out W1).mono ?_
        rintro e w4 ⟨rfl, rfl⟩
        obtain ⟨kk, hkk⟩ : ∃ kk, kk = kd % 8 := ⟨_, rfl⟩
        have hk0 : 0 ≤ kk := by omega
        have hk7 : kk < 8 := by omega
        rw [← hkk]
        clear hkk
        by_cases h45 : kk = 4 ∨ kk = 5
        · rcases h45 with rfl | rfl
          all_goals
            have HLD := Lib.hid (Load_c Q S doff dsz W1 HREL.out.inv HW.out.blk)
            go_wp2_with fail
            refine HLD.out.mono ?_
            rintro e w4 ⟨rfl, hb4⟩
            obtain ⟨V1, hV1⟩ : ∃ V, V = loadV S doff dsz := ⟨_, rfl⟩
            obtain ⟨E1, hE1⟩ : ∃ E, E = loadE S doff dsz := ⟨_, rfl⟩
            rw [← hV1, ← hE1]
            have HH4 := Lib.hid (HW.out.to (hb4.alloc (.cells #[.int .u8 V1.k, .int .u64 V1.w, .int .i64 V1.r, .int .i64 V1.o] 33)))
            have HX4 := Lib.hid ((hb4.alloc (.cells #[.int .u8 V1.k, .int .u64 V1.w, .int .i64 V1.r, .int .i64 V1.o] 33)).heap HX.out (by simp))
            have HRV : Hid (loadVR R doff dsz = V1) := Lib.hid (by rw [hV1]; exact (HREL.out.load doff dsz).2)
            have HRE : Hid (loadER R doff dsz = E1) := Lib.hid (by rw [hE1]; exact (HREL.out.load doff dsz).1)
            clear hb4 hV1 hE1 HLD x0 x1 x2 x3 x4 x5 x6 x7
            have y1 := cl_of HX4.out 1
            have y2 := cl_of HX4.out 2
            simp only [List.getElem?_toArray, List.getElem?_cons_zero, List.getElem?_cons_succ] at y1 y2
            unfold CV.agg
            have HLR := Lib.hid (LoadR_c P R doff dsz _ HREL.out.rng HH4.out.rblk)
            go_wp2_with fail
            refine HLR.out.mono ?_
            rintro e w5 ⟨rfl, hb5⟩
            rw [HRV.out, HRE.out]
            have HH5 := Lib.hid (HH4.out.to (hb5.alloc (.cells #[.int .u8 V1.k, .int .u64 V1.w, .int .i64 V1.r, .int .i64 V1.o] 33)))
            have q := ((hb5.alloc (.cells #[.int .u8 V1.k, .int .u64 V1.w, .int .i64 V1.r, .int .i64 V1.o] 33))).heap (al_at _ _) (by simp)
            have q0 := cl_of q 0
            have q1 := cl_of q 1
            have q2 := cl_of q 2
            have q3 := cl_of q 3
            simp only [List.getElem?_toArray, List.getElem?_cons_zero, List.getElem?_cons_succ] at q0 q1 q2 q3
            clear hb5 q HLR y1 y2
            unfold CV.agg
            go_wp2_with fail
            go_roundw
            case rel => exact ⟨j + 1, S, R, by omega, by go_num, HREL.out, HH5.out⟩
            case measure => simp [intOf]; omega
        · by_cases h6k : kk = 6
          · subst h6k
            clear h45
            have HLD := Lib.hid (Read_c Q S doff dsz W1 HREL.out.inv HW.out.blk)
            go_wp2_with fail
            refine HLD.out.mono ?_
            rintro e w4 ⟨v, rfl, hn4, hb4⟩
            obtain ⟨E1, hE1⟩ : ∃ E, E = readE S doff dsz := ⟨_, rfl⟩
            obtain ⟨row, hrow⟩ : ∃ r, r = readRow S doff dsz := ⟨_, rfl⟩
            have HRL : Hid (row.length ≤ 512) := Lib.hid (by rw [hrow]; exact readRow_len _ _ _)
            have HRV : Hid (readRowR R doff dsz = row) := Lib.hid (by rw [hrow]; exact (HREL.out.read doff dsz).2)
            have HRE : Hid (readER R doff dsz = E1) := Lib.hid (by rw [hE1]; exact (HREL.out.read doff dsz).1)
            rw [← hE1]
            rw [← hrow] at hn4
            have HN4 := Lib.hid hn4
            obtain ⟨va, vc, rfl, -⟩ := hn4
            have HH4 := Lib.hid (HW.out.to hb4)
            have HB4 := Lib.hid hb4
            have HX4 := Lib.hid (hb4.heap HX.out (by simp))
            clear hb4 hE1 hrow HLD x0 x1 x2 x3 x4 x5 x6 x7
            have y1 := cl_of HX4.out 1
            have y2 := cl_of HX4.out 2
            simp only [List.getElem?_toArray, List.getElem?_cons_zero, List.getElem?_cons_succ] at y1 y2
            have HLR := Lib.hid (ReadR_c P R doff dsz w4 HH4.out.rblk)
            go_wp2_with fail
            refine HLR.out.mono ?_
            rintro e w5 ⟨ra, rc, rfl, ho5, -, hb5⟩
            rw [HRV.out] at ho5 ⊢
            rw [HRE.out]
            have HH5 := Lib.hid (HH4.out.to hb5)
            have HB5 := Lib.hid (HB4.out.trans hb5 (by simp))
            have HN5 := Lib.hid (HN4.out.but hb5)
            have HSM := Lib.hid (same _ _ row row w5 HN5.out.sees ho5.sees (by have := HRL.out; omega))
            clear hb5 HLR y1 y2 ho5
            go_wp2_with fail
            refine HSM.out.mono ?_
            rintro e w6 ⟨rfl, hb6⟩
            simp only [decide_true]
            have HH6 := Lib.hid (HH5.out.to hb6)
            have HB6 := Lib.hid (HB5.out.trans hb6 (by simp))
            have HOV := Lib.hid (over_new (HN5.out.but hb6) HRL.out)
            clear hb6 HSM
            go_wp2_with fail
            refine HOV.out.mono ?_
            rintro e w7 ⟨rfl, L, hb7, hL7⟩
            have HH7 : Hid (DoH W3 Q P S R w7) := Lib.hid (HW.out.to (HB6.out.trans hb7 (fun x hx => .inr (hL7 x hx))))
            clear hb7 hL7 HOV
            go_wp2_with fail
            go_roundw
            case rel => exact ⟨j + 1, S, R, by omega, by go_num, HREL.out, HH7.out⟩
            case measure => simp [intOf]; omega
          · by_cases h7k : kk = 7
            · subst h7k
              clear h45 h6k
              have HLE := Lib.hid (lent _ _ W1 HSW.out (u8s_bytes bs) (by rw [u8s_len]; omega))
              go_wp2_with fail
              refine HLE.out.mono ?_
              rintro e w4 ⟨v, rfl, hl4, ho4, hb4⟩
              obtain ⟨g4, hg4⟩ := hl4.form
              rw [u8s_len] at hg4
              subst hg4
              have hg4 : g4 = W1.heap.size := by cases ho4; rfl
              have HG4 : Hid (W1.heap.size = g4) := Lib.hid hg4.symm
              have HL4 := Lib.hid hl4
              have HB4 := Lib.hid hb4
              have HX4 := Lib.hid (hb4.heap HX.out (by simp))
              have HZQ : Hid (Q < W1.heap.size ∧ P < W1.heap.size) := Lib.hid ⟨HW.out.blk.lt, HW.out.rblk.lt⟩
              clear hl4 ho4 hb4 hg4 HLE x0 x1 x2 x3 x4 x5 x6 x7
              obtain ⟨E1, hE1⟩ : ∃ E, E = writeE doff bs.length := ⟨_, rfl⟩
              have HH4 := Lib.hid (HW.out.to HB4.out)
              have HLQ : Hid (g4 ≠ Q ∧ g4 ≠ P) := Lib.hid (by have h1 := HG4.out; have h2 := HZQ.out; omega)
              have HDQ : Hid (wr.heap.size ≠ Q ∧ wr.heap.size ≠ P) := Lib.hid (by have h2 := HZ.out; omega)
              have HSW4 := Lib.hid (HSW.out.but HB4.out (by simp))
              have HWR := Lib.hid (fun wx (hb : But [] w4 wx) => Write_c Q S doff (some ⟨g4, 0, none⟩) (bs.length + 12) bs wx (HH4.out.to hb).blk (by have h := HL4.out.sees.but hb (by simp); exact h) (fun ad had _ => by cases had; exact HLQ.out.1) (by omega) (by omega))
              have HWQ := Lib.hid (fun wx (hb : But [Q] w4 wx) (hB : Blk wx P 36 1280 R.val) => WriteR_c P R doff ab cb bs wx hB (sees_keep HSW4.out hb (fun ad h1 h2 => by simpa using HFQ.out ad h1 h2)) HFP.out (by omega))
              have HKP := Lib.hid (fun wx (hb : But [Q, P] w4 wx) => kept _ _ (u8s bs) wx (HL4.out.but hb (fun k hk => by cases hk; simpa using HLQ.out)) (sees_keep HSW4.out hb (fun ad h1 h2 => by simpa using ⟨HFQ.out ad h1 h2, HFP.out ad h1 h2⟩)) (u8s_bytes bs) (by rw [u8s_len]; omega))
              have HS0 : Hid (∀ wx, But [Q, P] w4 wx → wx.cell? ⟨wr.heap.size, 1, none⟩ = some (.int .i64 doff) ∧ wx.cell? ⟨wr.heap.size, 7, none⟩ = some (.slice ab bs.length cb)) := Lib.hid fun wx hb => ⟨cl_of (hb.heap HX4.out (by simpa using HDQ.out)) 1, cl_of (hb.heap HX4.out (by simpa using HDQ.out)) 7⟩
              have k4 := HS0.out w4 (But.refl _ _)
              obtain ⟨k41, k47⟩ := k4
              rw [← hE1] at HWR HWQ
              clear hE1
              go_upto_region 27 with fail
              go_region_held3 (fun w' => w'.cell? ⟨wr.heap.size, 1, none⟩ = some (.int .i64 doff) ∧ w'.cell? ⟨wr.heap.size, 7, none⟩ = some (.slice ab bs.length cb)) (first | assumption | go_keep) (first | (go_at_call 19; refine (HWR.out _ (by first | exact But.refl _ _ | exact (But.refl _ _).drew)).mono ?_; rintro e w5 ⟨rfl, hB5, hb5⟩; have HH5 := Lib.hid ((HH4.out.to (by first | exact But.refl _ _ | exact (But.refl _ _).drew)).code HQP.out hB5 hb5); have HC5 : Hid (But [Q] w4 w5) := Lib.hid (((by first | exact But.refl _ _ | exact (But.refl _ _).drew : But [Q] w4 _)).trans hb5 (fun x hx => .inl hx)); clear hB5 hb5; have hk5 := HS0.out w5 (HC5.out.mono (by simp))) | (go_at_call 20; refine (HWQ.out _ HC5.out HH5.out.rblk).mono ?_; rintro e w6 ⟨rfl, hB6, hb6⟩; have HH6 := Lib.hid (HH5.out.ref HQP.out hB6 hb6); have HC6 : Hid (But [Q, P] w4 w6) := Lib.hid ((HC5.out.mono (by simp)).trans hb6 (fun x hx => .inl (by simp at hx; simp [hx]))); clear hB6 hb6; have hk6 := HS0.out w6 HC6.out) | (go_at_call 21; refine (HKP.out _ HC6.out).mono ?_; rintro e w7 ⟨rfl, hb7⟩; have HH7 := Lib.hid (HH6.out.to hb7); have HC7 : Hid (But [Q, P] w4 w7) := Lib.hid (HC6.out.trans hb7 (by simp)); clear hb7; have hk7 := HS0.out w7 HC7.out))
              all_goals
                have HOV := Lib.hid (over_lent (HL4.out.but HC7.out (fun k hk => by cases hk; simpa using HLQ.out)) (by rw [u8s_len]; omega))
                go_wp2_with fail
                refine HOV.out.mono ?_
                rintro e w8 ⟨rfl, hb8⟩
                have HH8 : Hid (DoH W3 Q P (writeS S doff bs) (writeRS R doff bs) w8) := Lib.hid ⟨HH7.out.blk.but hb8 (by simpa [Value.ownBlock] using HLQ.out.1.symm), HH7.out.rblk.but hb8 (by simpa [Value.ownBlock] using HLQ.out.2.symm), HH7.out.but.trans hb8 (fun x hx => .inr (by have h1 := HG4.out; have h2 := HW.out.but.size; simp [Value.ownBlock] at hx; omega))⟩
                have HR8 := Lib.hid (HREL.out.write doff HBY.out)
                clear hb8
                go_wp2_with fail
                go_roundw
                case rel => exact ⟨j + 1, _, _, by omega, by go_num, HR8.out, HH8.out⟩
                case measure => simp [intOf]; omega
            · have z4 : (kk == 4) = false := by simpa using fun h => h45 (.inl h)
              have z5 : (kk == 5) = false := by simpa using fun h => h45 (.inr h)
              have z6 : (kk == 6) = false := by simpa using h6k
              have z7 : (kk == 7) = false := by simpa using h7k
              clear h45 h6k h7k
              obtain ⟨E1, hE1⟩ : ∃ E, E = storeE doff dsz ⟨ck, cw, cr, co⟩ := ⟨_, rfl⟩
              have HDQ : Hid (wr.heap.size ≠ Q ∧ wr.heap.size ≠ P) := Lib.hid (by have h2 := HZ.out; omega)
              have HST := Lib.hid (fun wx (hb : But [] W1 wx) => Store_c Q S doff dsz ⟨ck, cw, cr, co⟩ wx HWC.out (HW.out.to hb).blk)
              have HSQ := Lib.hid (fun wx (hB : Blk wx P 36 1280 R.val) => StoreR_c P R doff dsz ⟨ck, cw, cr, co⟩ wx hB)
              rw [← hE1] at HST HSQ
              unfold CV.agg at HST HSQ
              have HS0 : Hid (∀ wx, But [Q, P] W1 wx → wx.cell? ⟨wr.heap.size, 1, none⟩ = some (.int .i64 doff) ∧ wx.cell? ⟨wr.heap.size, 2, none⟩ = some (.int .i64 dsz) ∧ wx.cell? ⟨wr.heap.size, 3, none⟩ = some (.int .u8 ck) ∧ wx.cell? ⟨wr.heap.size, 4, none⟩ = some (.int .u64 cw) ∧ wx.cell? ⟨wr.heap.size, 5, none⟩ = some (.int .i64 cr) ∧ wx.cell? ⟨wr.heap.size, 6, none⟩ = some (.int .i64 co)) := Lib.hid fun wx hb => by
                have h := hb.heap HX.out (by simpa using HDQ.out)
                exact ⟨cl_of h 1, cl_of h 2, cl_of h 3, cl_of h 4, cl_of h 5, cl_of h 6⟩
              clear hE1 x0 x7
              go_upto_region 11 with fail
              go_region_held3 (fun wx => wx.cell? ⟨wr.heap.size, 1, none⟩ = some (.int .i64 doff) ∧ wx.cell? ⟨wr.heap.size, 2, none⟩ = some (.int .i64 dsz) ∧ wx.cell? ⟨wr.heap.size, 3, none⟩ = some (.int .u8 ck) ∧ wx.cell? ⟨wr.heap.size, 4, none⟩ = some (.int .u64 cw) ∧ wx.cell? ⟨wr.heap.size, 5, none⟩ = some (.int .i64 cr) ∧ wx.cell? ⟨wr.heap.size, 6, none⟩ = some (.int .i64 co)) (first | assumption | go_keep) (first | (go_at_call 22; refine (HST.out _ (by first | exact But.refl _ _ | exact (But.refl _ _).drew)).mono ?_; rintro e w5 ⟨rfl, hB5, hb5⟩; have HH5 := Lib.hid ((HW.out.to (by first | exact But.refl _ _ | exact (But.refl _ _).drew)).code HQP.out hB5 hb5); have HC5 : Hid (But [Q] W1 w5) := Lib.hid (((by first | exact But.refl _ _ | exact (But.refl _ _).drew : But [Q] W1 _)).trans hb5 (fun x hx => .inl hx)); clear hB5 hb5; have hk5 := HS0.out w5 (HC5.out.mono (by simp))) | (go_at_call 23; refine (HSQ.out _ HH5.out.rblk).mono ?_; rintro e w6 ⟨rfl, hB6, hb6⟩; have HH6 := Lib.hid (HH5.out.ref HQP.out hB6 hb6); have HC6 : Hid (But [Q, P] W1 w6) := Lib.hid ((HC5.out.mono (by simp)).trans hb6 (fun x hx => .inl (by simp at hx; simp [hx]))); clear hB6 hb6; have hk6 := HS0.out w6 HC6.out))
              all_goals
                have HR8 := Lib.hid (HREL.out.store doff dsz ⟨ck, cw, cr, co⟩)
                go_wp2_with fail
                go_roundw
                case rel => exact ⟨j + 1, _, _, by omega, by go_num, HR8.out, HH6.out⟩
                case measure => simp [intOf]; omega
      · obtain rfl : j = l.length := by omega
        have HHE := Lib.hid HH.out
        clear HH hj0
        go_wp2_with fail
        go_loopw [16] (fun at_ wr => ∃ m : Nat, m ≤ 520 ∧ at_ = .int .i64 m ∧ DoH W3 Q P S R wr) (fun at_ _ => 528 - (intOf at_).toNat)
        case atStart => exact ⟨0, by omega, rfl, HHE.out⟩
        case round =>
          obtain ⟨m, hm, rfl, hH⟩ := hrel
          have HM := Lib.hid hH
          clear hH HHE
          have hm0 : (0 : Int) ≤ m := by omega
          by_cases hlt : m < 512
          · have hm1 : (m : Int) < 512 := by omega
            have hw8 : wrap64 ((m : Int) + 8) = (m : Int) + 8 := by rw [wrap64]; omega
            have hw3 : wrap64 ((m : Int) + 3) = (m : Int) + 3 := by rw [wrap64]; omega
            clear hlt
            have HLD := Lib.hid (Load_c Q S m 8 wr HREL.out.inv HM.out.blk)
            go_wp2_with fail
            refine HLD.out.mono ?_
            rintro e w4 ⟨rfl, hb4⟩
            obtain ⟨V1, hV1⟩ : ∃ V, V = loadV S m 8 := ⟨_, rfl⟩
            obtain ⟨E1, hE1⟩ : ∃ E, E = loadE S m 8 := ⟨_, rfl⟩
            rw [← hV1, ← hE1]
            have HRV : Hid (loadVR R m 8 = V1) := Lib.hid (by rw [hV1]; exact (HREL.out.load m 8).2)
            have HRE : Hid (loadER R m 8 = E1) := Lib.hid (by rw [hE1]; exact (HREL.out.load m 8).1)
            obtain ⟨W4, hW4⟩ : ∃ W, W = w4.alloc (.cells #[.int .u8 V1.k, .int .u64 V1.w, .int .i64 V1.r, .int .i64 V1.o] 33) := ⟨_, rfl⟩
            have HB4 : Hid (But [] wr W4) := Lib.hid (by rw [hW4]; exact hb4.alloc _)
            have HQ4 : Hid (W4.heap[w4.heap.size]? = some (.cells #[.int .u8 V1.k, .int .u64 V1.w, .int .i64 V1.r, .int .i64 V1.o] 33)) := Lib.hid (by rw [hW4]; exact al_at _ _)
            have HH4 := Lib.hid (HM.out.to HB4.out)
            have HW4 := Lib.hid hW4.symm
            clear hb4 hV1 hE1 HLD hW4
            unfold CV.agg
            have HLR := Lib.hid (LoadR_c P R m 8 W4 HREL.out.rng HH4.out.rblk)
            go_wp2_with fail
            rw [HW4.out]
            refine HLR.out.mono ?_
            rintro e w5 ⟨rfl, hb5⟩
            rw [HRV.out, HRE.out]
            obtain ⟨W5, hW5⟩ : ∃ W, W = w5.alloc (.cells #[.int .u8 V1.k, .int .u64 V1.w, .int .i64 V1.r, .int .i64 V1.o] 33) := ⟨_, rfl⟩
            have HB5 : Hid (But [] W4 W5) := Lib.hid (by rw [hW5]; exact hb5.alloc _)
            have HQ5 : Hid (W5.heap[w5.heap.size]? = some (.cells #[.int .u8 V1.k, .int .u64 V1.w, .int .i64 V1.r, .int .i64 V1.o] 33)) := Lib.hid (by rw [hW5]; exact al_at _ _)
            have HH5 := Lib.hid (HH4.out.to HB5.out)
            have HW5 := Lib.hid hW5.symm
            have HLD := Lib.hid (Load_c Q S ((m : Int) + 3) 1 W5 HREL.out.inv HH5.out.blk)
            clear hb5 HLR hW5
            unfold CV.agg
            go_wp2_with fail
            rw [HW5.out]
            refine HLD.out.mono ?_
            rintro e w6 ⟨rfl, hb6⟩
            obtain ⟨V2, hV2⟩ : ∃ V, V = loadV S ((m : Int) + 3) 1 := ⟨_, rfl⟩
            obtain ⟨E2, hE2⟩ : ∃ E, E = loadE S ((m : Int) + 3) 1 := ⟨_, rfl⟩
            rw [← hV2, ← hE2]
            have HRV2 : Hid (loadVR R ((m : Int) + 3) 1 = V2) := Lib.hid (by rw [hV2]; exact (HREL.out.load _ 1).2)
            have HRE2 : Hid (loadER R ((m : Int) + 3) 1 = E2) := Lib.hid (by rw [hE2]; exact (HREL.out.load _ 1).1)
            obtain ⟨W6, hW6⟩ : ∃ W, W = w6.alloc (.cells #[.int .u8 V2.k, .int .u64 V2.w, .int .i64 V2.r, .int .i64 V2.o] 33) := ⟨_, rfl⟩
            have HB6 : Hid (But [] W5 W6) := Lib.hid (by rw [hW6]; exact hb6.alloc _)
            have HQ6 : Hid (W6.heap[w6.heap.size]? = some (.cells #[.int .u8 V2.k, .int .u64 V2.w, .int .i64 V2.r, .int .i64 V2.o] 33)) := Lib.hid (by rw [hW6]; exact al_at _ _)
            have HH6 := Lib.hid (HH5.out.to HB6.out)
            have HW6 := Lib.hid hW6.symm
            have HLR := Lib.hid (LoadR_c P R ((m : Int) + 3) 1 W6 HREL.out.rng HH6.out.rblk)
            clear hb6 hV2 hE2 HLD hW6
            unfold CV.agg
            go_wp2_with fail
            rw [HW6.out]
            refine HLR.out.mono ?_
            rintro e w7 ⟨rfl, hb7⟩
            rw [HRV2.out, HRE2.out]
            have HB7 := Lib.hid hb7
            have HH7 := Lib.hid (HH6.out.to (hb7.alloc (.cells #[.int .u8 V2.k, .int .u64 V2.w, .int .i64 V2.r, .int .i64 V2.o] 33)))
            have p7 := hb7.alloc (.cells #[.int .u8 V2.k, .int .u64 V2.w, .int .i64 V2.r, .int .i64 V2.o] 33)
            have p := p7.heap (HB6.out.heap (HB5.out.heap HQ4.out (by simp)) (by simp)) (by simp)
            have q := p7.heap (HB6.out.heap HQ5.out (by simp)) (by simp)
            have r := p7.heap HQ6.out (by simp)
            have p0 := cl_of p 0
            have p1 := cl_of p 1
            have p2 := cl_of p 2
            have p3 := cl_of p 3
            have q0 := cl_of q 0
            have q1 := cl_of q 1
            have q2 := cl_of q 2
            have q3 := cl_of q 3
            have r0 := cl_of r 0
            have r1 := cl_of r 1
            have r2 := cl_of r 2
            have r3 := cl_of r 3
            simp only [List.getElem?_toArray, List.getElem?_cons_zero, List.getElem?_cons_succ] at p0 p1 p2 p3 q0 q1 q2 q3 r0 r1 r2 r3
            clear hb7 HLR p q r p7
            unfold CV.agg
            go_wp2_with fail
            go_roundw
            case rel => exact ⟨m + 8, by omega, by go_num, HH7.out⟩
            case measure => simp [intOf]; omega
          · have hd : ¬ ((m : Int) < 512) := by omega
            have HQE := Lib.hid (HQ3.out _ HM.out.but)
            clear hlt
            go_wp2_with fail
            go_ret
            exact ⟨rfl, HQE.out⟩
theorem cellDoes_walk (w : World) (v : Value) (l : List Deed) (hs : SeesDeeds w v l) (hl : l.length ≤ 1759218604440) :
    Calls Try.prog 3 #[v] w fun e w' => e = .returned (.bool true) ∧ Below w.heap.size w w' :=
  (cellDoes_go v l w hs).mono fun _ _ ⟨he, hb⟩ => ⟨he, hb.below (Nat.le_refl _) (by simp)⟩
end Go.Proofs.Ytmaeiifhmngllaa.M
