/-
  TrieDoes: the walk.
-/
import Derived.Test.YtpoinhfkgnkedaaGH
import Derived.Test.YtpoinhfkgnkedaaTrKey
import Derived.Test.YtpoinhfkgnkedaaPick
import Derived.Test.YtpoinhfkgnkedaaGP
import Derived.BigQuiet
import Derived.Deep.CutBlock
import Derived.Deep.RegionHeld3
import Derived.Deep.DrawnRows
namespace Go.Proofs.Ytpoinhfkgnkedaa.M
open Go.RowKit
set_option linter.unusedVariables false
set_option linter.unusedSectionVars false
set_option linter.unusedSimpArgs false
attribute [local go_sem ↓] Go.wp_at_zero Go.wp_at_succ
theorem wf_i64D {z : Int} (h : (Lit.int .i64 z).wf = true) : -9223372036854775808 ≤ z ∧ z ≤ 9223372036854775807 := by
  simp only [Lit.wf, Bool.and_eq_true, decide_eq_true_eq] at h
  exact ⟨Int.le_trans (by decide) h.1, Int.le_trans h.2 (by decide)⟩
theorem flag_posD {z : Int} (h : (Lit.int .u64 z).wf = true) : 0 ≤ z := by
  simp only [Lit.wf, Bool.and_eq_true, decide_eq_true_eq] at h
  exact Int.le_trans (by decide) h.1
theorem q_rangeD {q z : Int} (h : q = z % 9) : 0 ≤ q ∧ q < 9 := by omega
theorem lent_g {w w' : World} {ks : List Int} {v : Value} (hl : Lent w' v (u8s ks)) (ho : v.ownBlock = some w.heap.size) : v = .slice (some ⟨w.heap.size, 0, none⟩) ks.length (ks.length + 12) := by
  obtain ⟨g, e⟩ := hl.form
  rw [u8s_len] at e
  subst e
  cases ho
  rfl
theorem u8s_bytesD (bs : List Int) : IsBytes (u8s bs) := fun v hv => by
  unfold u8s at hv
  obtain ⟨x, -, rfl⟩ := List.mem_map.1 hv
  exact ⟨x, rfl⟩
theorem num_eqD {k n : Nat} (h : k ≤ n) (h2 : ¬ k < n) : k = n := by omega
theorem lent_at {W4 wx : World} (hb : But [] W4 wx) {a : Option Addr} {c : Nat} {ks : List Int} (hs : Sees W4 (.slice a ks.length c) (u8s ks)) (hl : ks.length ≤ 80) :
    Calls Try.prog 21 #[.slice a ks.length c] wx fun e w' => ∃ g, e = .returned (.slice (some ⟨g, 0, none⟩) ks.length (ks.length + 12)) ∧ Lent w' (.slice (some ⟨g, 0, none⟩) ks.length (ks.length + 12)) (u8s ks) ∧ wx.heap.size ≤ g ∧ g < w'.heap.size ∧ But [] wx w' := by
  refine (lent _ (u8s ks) wx (hs.but hb (by simp)) (u8s_bytesD ks) (by rw [u8s_len]; omega)).mono ?_
  rintro e w' ⟨v, rfl, h1, h2, h3⟩
  have e := lent_g h1 h2
  subst e
  obtain ⟨cur, hg, _⟩ := h1.tag _ rfl
  exact ⟨_, rfl, h1, Nat.le_refl _, lt_of hg, h3⟩
set_option maxRecDepth 100000 in
set_option maxHeartbeats 16000000 in
theorem trieDoes (k key val ent : Int) (v : Value) (l : List DeedA) (w : World) (hk : (Lit.int .u8 k).wf = true) (hs : SeesDeeds w v l) :
    Calls Try.prog 5 #[.agg #[.int .u8 k, .int .i64 key, .int .i64 val, .int .i64 ent], v] w fun e w' => e = .returned (.bool true) ∧ But [] w w' := by
  obtain ⟨oa, oc, rfl, hD⟩ := hs
  have HD := Lib.hid hD
  clear hD
  go_enter Try.func5, Try.ntmps5
  go_wp2_with fail
  refine (awake _).mono ?_
  rintro e w1 ⟨rfl, hb1⟩
  have HS : Hid (w1.heap[w.heap.size]? = some (.cells #[.int .u8 k, .int .i64 key, .int .i64 val, .int .i64 ent] 24)) := Lib.hid (hb1.heap (al_at _ _) (by simp))
  have HB1 : Hid (But [] w w1) := Lib.hid (((But.refl [] w).alloc _).trans hb1 (by simp))
  clear hb1
  have s0 : w1.cell? ⟨w.heap.size, 0, none⟩ = some (.int .u8 k) := cl_of HS.out 0
  have s1 : w1.cell? ⟨w.heap.size, 1, none⟩ = some (.int .i64 key) := cl_of HS.out 1
  have s2 : w1.cell? ⟨w.heap.size, 2, none⟩ = some (.int .i64 val) := cl_of HS.out 2
  have s3 : w1.cell? ⟨w.heap.size, 3, none⟩ = some (.int .i64 ent) := cl_of HS.out 3
  go_wp2_with fail
  refine (light k key val ent _ l _ ⟨oa, oc, rfl, fun i d h => (HD.out i d h).keep HB1.out⟩).mono ?_
  rintro e w2 ⟨b, rfl, hli, hw2⟩
  have HB2 : Hid (But [] w1 w2) := Lib.hid (by rw [hw2]; exact (But.refl [] w1).alloc _)
  have HB02 : Hid (But [] w w2) := Lib.hid (HB1.out.trans HB2.out (by simp))
  clear hw2 s0 s1 s2 s3
  have hs2 := HB2.out.heap HS.out (by simp)
  have s0 : w2.cell? ⟨w.heap.size, 0, none⟩ = some (.int .u8 k) := cl_of hs2 0
  have s1 : w2.cell? ⟨w.heap.size, 1, none⟩ = some (.int .i64 key) := cl_of hs2 1
  have s2 : w2.cell? ⟨w.heap.size, 2, none⟩ = some (.int .i64 val) := cl_of hs2 2
  have s3 : w2.cell? ⟨w.heap.size, 3, none⟩ = some (.int .i64 ent) := cl_of hs2 3
  have HS2 := Lib.hid hs2
  clear hs2
  cases b
  · go_wp2_with fail
    go_ret
    exact ⟨rfl, HB02.out⟩
  have HLI := Lib.hid (hli rfl)
  clear hli
  go_wp2_with fail
  rcases bothNew k key val ent hk with ⟨E, hE1, hE2, hN, hM⟩ | ⟨K, V, N, rfl, rfl, rfl, rfl, hbd, hN, hM⟩
  · have HM := Lib.hid hM
    refine (hN w2).mono ?_
    rintro e w3 ⟨rfl, hb3⟩
    have HB3 := Lib.hid (HB02.out.trans hb3 (by simp))
    have hs3 := hb3.heap HS2.out (by simp)
    have t0 : w3.cell? ⟨w.heap.size, 0, none⟩ = some (.int .u8 k) := cl_of hs3 0
    have t1 : w3.cell? ⟨w.heap.size, 1, none⟩ = some (.int .i64 key) := cl_of hs3 1
    have t2 : w3.cell? ⟨w.heap.size, 2, none⟩ = some (.int .i64 val) := cl_of hs3 2
    have t3 : w3.cell? ⟨w.heap.size, 3, none⟩ = some (.int .i64 ent) := cl_of hs3 3
    have HS3 := Lib.hid hs3
    clear hb3 hN hM hs3 s0 s1 s2 s3
    go_wp2_with fail
    refine (HM.out w3).mono ?_
    rintro e w4 ⟨rfl, hb4⟩
    have HB4 := Lib.hid (HB3.out.trans hb4 (by simp))
    have hs4 := hb4.heap HS3.out (by simp)
    have t3 : w4.cell? ⟨w.heap.size, 3, none⟩ = some (.int .i64 ent) := cl_of hs4 3
    have hee : (E != E) = false := by simp
    clear hb4 hs4 t0 t1 t2
    by_cases hd2 : 0 < ent
    all_goals
      by_cases hd1 : 0 < l.length
      all_goals
        go_wp2_with fail
        refine wp_loop_rounds 1 ?_
        rw [rounds_succ]
        go_wp2_with fail
        refine wp_loop_rounds 1 ?_
        rw [rounds_succ]
        go_wp2_with fail
        go_ret
        exact ⟨rfl, HB4.out⟩
  · have HM := Lib.hid hM
    have HBD := Lib.hid hbd
    refine (hN w2).mono ?_
    rintro e w3 ⟨P, SP, rfl, hL⟩
    have HL := Lib.hid hL
    have hs3 := hL.but.heap HS2.out (by simp)
    have t0 : w3.cell? ⟨w.heap.size, 0, none⟩ = some (.int .u8 4) := cl_of hs3 0
    have t1 : w3.cell? ⟨w.heap.size, 1, none⟩ = some (.int .i64 K) := cl_of hs3 1
    have t2 : w3.cell? ⟨w.heap.size, 2, none⟩ = some (.int .i64 V) := cl_of hs3 2
    have t3 : w3.cell? ⟨w.heap.size, 3, none⟩ = some (.int .i64 N) := cl_of hs3 3
    have HS3 := Lib.hid hs3
    clear hL hN hM hs3 s0 s1 s2 s3 hk hbd
    go_wp2_with fail
    refine (HM.out w3).mono ?_
    rintro e w4 ⟨X, na, nc, vals, rfl, hnr, hvl⟩
    have hs4 := hnr.but.heap HS3.out (by simp)
    obtain ⟨OS, hOS⟩ : ∃ OS : Obj, OS = .cells #[.int .u8 4, .int .i64 K, .int .i64 V, .int .i64 N] 24 := ⟨_, rfl⟩
    have HOS := Lib.hid hOS
    have HDR : Hid (DoR w w4 P X K V N w.heap.size OS) := Lib.hid ⟨_, _, _, AE.nil, newDL HB02.out (lt_of HS2.out) HL.out hnr hvl HBD.out, by rw [hOS]; exact hs4⟩
    clear hnr hvl hs4 hOS t0 t1 t2 t3 HM
    go_wp2_with fail
    go_loopw [9] (fun i wr => ∃ j : Nat, j ≤ l.length ∧ i = .int .i64 j ∧ DoR w wr P X K V N w.heap.size OS) (fun i _ => l.length - (intOf i).toNat)
    case atStart => exact ⟨0, Nat.zero_le _, rfl, HDR.out⟩
    case round =>
      rename World => wq
      obtain ⟨j, hj, rfl, hDR⟩ := hrel
      obtain ⟨E, B, rows, hae, hdl, hsp⟩ := hDR
      have HAE := Lib.hid hae
      have HDL := Lib.hid hdl
      have HSP := Lib.hid hsp
      clear hdl hsp HDR hae
      by_cases hlt : j < l.length
      · obtain ⟨hj0, hj1, hw1⟩ := light_nums hlt HLI.out.2.1
        obtain ⟨d, hd⟩ : ∃ d, l[j]? = some d := ⟨_, List.getElem?_eq_getElem hlt⟩
        obtain ⟨g, o, rfl, hc0, hok⟩ := HD.out j d hd
        have hbw := HDL.out.but
        have hc : ∀ (q : Nat) (v : Value), d.cells[q]? = some v → wq.cell? ⟨g, o + j * 6 + q, none⟩ = some v := fun q v hv => cell_but hbw (hc0 q v hv) (by simp)
        obtain ⟨a3, c3, e3, -⟩ := sees_shape hok.key
        obtain ⟨a5, c5, e5, -⟩ := sees_shape hok.b
        rw [u8s_len] at e3 e5
        have d0 : wq.cell? ⟨g, o + j * 6, none⟩ = some (.int .i64 d.what) := hc 0 _ rfl
        have d1 := hc 1 _ rfl
        have d2 := hc 2 _ rfl
        rw [e3] at d1
        rw [e5] at d2
        have hks := hok.key
        have hvs := hok.b
        rw [e3] at hks
        rw [e5] at hvs
        have HFW := Lib.hid (HLI.out.2.2 j d hd)
        have HKS := Lib.hid hks
        have HVS := Lib.hid hvs
        have HKB := Lib.hid hok.keyb
        have HVB := Lib.hid hok.bb
        have HFL : Hid (0 ≤ d.flags) := Lib.hid (flag_posD hok.flags)
        have HWH := Lib.hid (wf_i64D hok.what)
        have d3 := hc 3 _ rfl
        have d4 := hc 4 _ rfl
        have d5 := hc 5 _ rfl
        have HLT := Lib.hid hlt
        have hgl := cell_lt d0
        clear hc hc0 hok hd hlt e3 e5 hks hvs hbw
        go_upto_region 13 with fail
        obtain ⟨W4, hW4⟩ : ∃ W4, W4 = wq.alloc (.cells #[.int .i64 d.what, .slice a3 d.ks.length c3, .slice a5 d.bs.length c5, .int .u64 d.flags, .int .i64 d.place, .int .i64 d.off] 36) := ⟨_, rfl⟩
        rw [← hW4]
        obtain ⟨OB, hOB⟩ : ∃ OB : Obj, OB = .cells #[.int .i64 d.what, .slice a3 d.ks.length c3, .slice a5 d.bs.length c5, .int .u64 d.flags, .int .i64 d.place, .int .i64 d.off] 36 := ⟨_, rfl⟩
        obtain ⟨db, hdb⟩ : ∃ db, db = wq.heap.size := ⟨_, rfl⟩
        have hb4 : But [] wq W4 := by rw [hW4]; exact (But.refl [] wq).alloc _
        have hbx : W4.heap[db]? = some OB := by rw [hW4, hOB, hdb]; exact al_at _ _
        have HD4 := Lib.hid (HDL.out.box hb4 (g := db) (by omega) (lt_of hbx))
        have HSP4 := Lib.hid (hb4.heap HSP.out (by simp))
        have HBX := Lib.hid hbx
        have HOB := Lib.hid hOB
        have HWB : Hid (But [] w W4) := Lib.hid (HDL.out.but.trans hb4 (by simp))
        have HSD : Hid (w.heap.size < db ∧ w.heap.size < W4.heap.size) := Lib.hid ⟨by rw [hdb]; exact lt_of HSP.out, Nat.lt_of_lt_of_le (lt_of HSP.out) hb4.size⟩
        have x1 : W4.cell? ⟨db, 1, none⟩ = some (.slice a3 d.ks.length c3) := cl_of (hOB ▸ hbx) 1
        have x2 : W4.cell? ⟨db, 2, none⟩ = some (.slice a5 d.bs.length c5) := cl_of (hOB ▸ hbx) 2
        have HS0 : Hid (∀ wx, But [] W4 wx → wx.cell? ⟨db, 1, none⟩ = some (.slice a3 d.ks.length c3) ∧ wx.cell? ⟨db, 2, none⟩ = some (.slice a5 d.bs.length c5)) := Lib.hid fun wx hb => ⟨cell_but hb x1 (by simp), cell_but hb x2 (by simp)⟩
        have HLK := Lib.hid (fun wx (hb : But [] W4 wx) => lent_at hb (HKS.out.but HWB.out (by simp)) HFW.out.1)
        have HLV := Lib.hid (fun wx (hb : But [] W4 wx) => lent_at hb (HVS.out.but HWB.out (by simp)) HFW.out.2)
        rw [← hdb]
        clear hW4 hOB hdb hb4 hbx d0 d1 d2 d3 d4 d5 hgl HDL
        go_region_held3 (fun w' => w'.cell? ⟨db, 1, none⟩ = some (.slice a3 d.ks.length c3) ∧ w'.cell? ⟨db, 2, none⟩ = some (.slice a5 d.bs.length c5)) (first | assumption | go_keep) (first | (go_at_call 21; (with_reducible refine (HLK.out _ (by first | exact But.refl _ _ | exact (But.refl _ _).drew)).mono ?_); rintro e w5 ⟨gk, rfl, hl5, hg5, hz5, hb5⟩; have HL5 := Lib.hid hl5; have HB5 : Hid (But [] W4 w5) := Lib.hid ((by first | exact But.refl _ _ | exact (But.refl _ _).drew : But [] W4 _).trans hb5 (by simp)); have HG5 : Hid (W4.heap.size ≤ gk ∧ gk < w5.heap.size) := Lib.hid ⟨hg5, hz5⟩; clear hl5 hg5 hz5 hb5; have hk5 := HS0.out w5 HB5.out) | (go_at_call 21; (with_reducible refine (HLV.out _ (by first | exact HB5.out | exact HB5.out.drew)).mono ?_); rintro e w6 ⟨gv, rfl, hl6, hg6, hz6, hb6⟩; have HL6 := Lib.hid hl6; have HB6 : Hid (But [] w5 w6) := Lib.hid ((by first | exact But.refl _ _ | exact (But.refl _ _).drew : But [] w5 _).trans hb6 (by simp)); have HG6 : Hid (w5.heap.size ≤ gv ∧ gv < w6.heap.size) := Lib.hid ⟨hg6, hz6⟩; clear hl6 hg6 hz6 hb6; have hk6 := HS0.out w6 (HB5.out.trans HB6.out (by simp))))
        have HRD : Hid (RD w w6 P X K V N db gk gv w.heap.size OB OS d.ks d.bs E rows B rows) := Lib.hid ⟨((HD4.out.box HB5.out HG5.out.1 HG5.out.2).box HB6.out HG6.out.1 HG6.out.2), HB6.out.heap (HB5.out.heap HBX.out (by simp)) (by simp), HB6.out.heap (HB5.out.heap HSP4.out (by simp)) (by simp), HL5.out.but HB6.out (by simp), HL6.out⟩
        have HGG : Hid ((w.heap.size ≤ gk ∧ w.heap.size ≤ gv) ∧ (gk ≠ w.heap.size ∧ gv ≠ w.heap.size) ∧ gv ≠ gk) := Lib.hid (by
          have h1 := HSD.out
          have h2 := HG5.out
          have h3 := HG6.out
          have h4 := HB5.out.size
          omega)
        have HBC : Hid (∀ wx : World, wx.heap[db]? = some OB → ∀ (i : Nat) (v : Value), (List.toArray (Value.int .i64 d.what :: Value.slice a3 d.ks.length c3 :: Value.slice a5 d.bs.length c5 :: Value.int .u64 d.flags :: Value.int .i64 d.place :: Value.int .i64 d.off :: []))[i]? = some v → wx.cell? ⟨db, i, none⟩ = some v) := Lib.hid fun wx h i v hv => by
          rw [HOB.out] at h
          rw [cl_of h i]
          exact hv
        have z0 := HBC.out w6 HRD.out.box 0 _ rfl
        clear x1 x2 hk5 hk6 HS0 HLK HLV HD4 HSP4 HBX HWB HSD HL5 HL6 HB5 HB6 HG5 HG6
        go_wp2_with fail
        refine (pick d.what 9 _ (by decide) (by decide) HWH.out.1 HWH.out.2).mono ?_
        rintro e w7 ⟨rfl, rfl⟩
        obtain ⟨q, hq⟩ : ∃ q, q = d.what % 9 := ⟨_, rfl⟩
        rw [← hq]
        have hq9 := q_rangeD hq
        clear hq z0
        go_upto_block 2 with fail
        go_cut [] (fun wx => DoM w wx P X K V N db gk gv w.heap.size OB OS d.ks d.bs)
        case first =>
          have HCD : Hid (∀ wx : World, wx.heap[db]? = some OB → wx.cell? ⟨db, 1, none⟩ = some (.slice a3 d.ks.length c3)) := Lib.hid fun wx h => HBC.out wx h 1 _ rfl
          have HCS : Hid (∀ wx : World, wx.heap[db]? = some OB → wx.cell? ⟨db, 2, none⟩ = some (.slice a5 d.bs.length c5) ∧ wx.cell? ⟨db, 4, none⟩ = some (.int .i64 d.place) ∧ wx.cell? ⟨db, 5, none⟩ = some (.int .i64 d.off)) := Lib.hid fun wx h => ⟨HBC.out wx h 2 _ rfl, HBC.out wx h 4 _ rfl, HBC.out wx h 5 _ rfl⟩
          have HCU : Hid (∀ wx : World, wx.heap[db]? = some OB → wx.cell? ⟨db, 1, none⟩ = some (.slice a3 d.ks.length c3) ∧ wx.cell? ⟨db, 2, none⟩ = some (.slice a5 d.bs.length c5) ∧ wx.cell? ⟨db, 3, none⟩ = some (.int .u64 d.flags)) := Lib.hid fun wx h => ⟨HBC.out wx h 1 _ rfl, HBC.out wx h 2 _ rfl, HBC.out wx h 3 _ rfl⟩
          have y1 := HBC.out w6 HRD.out.box 1 _ rfl
          by_cases hq0 : q ≤ 1
          · have hq01 : q = 0 ∨ q = 1 := by omega
            obtain ⟨L1, hL1⟩ : ∃ L1, L1 = lookT K E d.ks := ⟨_, rfl⟩
            have HT := Lib.hid (HRD.out.lookT HKB.out)
            have HR := Lib.hid (fun wx (h : RD w wx P X K V N db gk gv w.heap.size OB OS d.ks d.bs E rows B rows) => h.lookR a3 c3 HKS.out HKB.out)
            rw [HAE.out.look K d.ks] at HR
            rw [← hL1] at HT HR
            have hn1 : ((L1.1 : Int) != (L1.1 : Int)) = false := by simp
            have hn2 : (L1.2 != L1.2) = false := by simp
            clear hL1 hq0 hq9
            rcases hq01 with rfl | rfl
            all_goals
              go_wp2_with fail
              refine HT.out.mono ?_
              rintro e w7 ⟨rfl, h7⟩
              have H7 := Lib.hid h7
              have y17 := HBC.out w7 h7.box 1 _ rfl
              clear h7
              go_wp2_with fail
              refine (HR.out _ H7.out).mono ?_
              rintro e w8 ⟨rfl, h8⟩
              have H8 := Lib.hid h8
              clear h8
              go_wp2_with fail
              go_meet
              exact ⟨_, _, _, HAE.out, H8.out⟩
          · have n0 : (q == 0) = false := by simpa using fun e : q = 0 => hq0 (by omega)
            have n1 : (q == 1) = false := by simpa using fun e : q = 1 => hq0 (by omega)
            clear hq0
            by_cases hq5 : q = 5
            · subst hq5
              clear n0 n1 hq9
              obtain ⟨L1, hL1⟩ : ∃ L1, L1 = delT K E d.ks := ⟨_, rfl⟩
              obtain ⟨M1, hM1⟩ : ∃ M1, M1 = delR K B d.ks := ⟨_, rfl⟩
              have hdd := HAE.out.del K d.ks
              rw [← hL1, ← hM1] at hdd
              have HAE2 := Lib.hid hdd.2
              have hde := hdd.1
              have HT := Lib.hid (fun wx (hb : But [] w6 wx) => (HRD.out.keep hb).delT HKB.out)
              have HR := Lib.hid (fun wx (h : RD w wx P X K V N db gk gv w.heap.size OB OS d.ks d.bs L1.2 rows B rows) => h.delR a3 c3 HKS.out HKB.out)
              rw [← hL1] at HT
              rw [← hM1, hde] at HR
              have hn1 : (L1.1 != L1.1) = false := by simp
              clear hL1 hM1 hdd hde
              go_upto_region 24 with fail
              go_region_held3 (fun wx => wx.cell? ⟨db, 1, none⟩ = some (.slice a3 d.ks.length c3)) (first | assumption | go_keep) (first | (go_at_call 11; (with_reducible refine (HT.out _ (by first | exact But.refl _ _ | exact (But.refl _ _).drew)).mono ?_); rintro e w7 ⟨rfl, h7⟩; have H7 := Lib.hid h7; clear h7; have hk7 := HCD.out w7 H7.out.box) | (go_at_call 23; (with_reducible refine (HR.out _ (by first | exact H7.out | exact H7.out.keep ((But.refl _ _).drew))).mono ?_); rintro e w8 ⟨rfl, h8⟩; have H8 := Lib.hid h8; clear h8; have hk8 := HCD.out w8 H8.out.box))
              all_goals
                go_wp2_with fail
                go_meet
                exact ⟨_, _, _, HAE2.out, H8.out⟩
            · have n5 : (q == 5) = false := by simpa using hq5
              clear hq5
              by_cases hq6 : q = 6
              · subst hq6
                clear n0 n1 n5 hq9
                have y4 := HBC.out w6 HRD.out.box 4 _ rfl
                obtain ⟨L1, hL1⟩ : ∃ L1, L1 = valA N rows d.place := ⟨_, rfl⟩
                have HT := Lib.hid (HRD.out.dl.valT d.place)
                have HR := Lib.hid (fun wx (h : RD w wx P X K V N db gk gv w.heap.size OB OS d.ks d.bs E rows B rows) => h.dl.valR d.place)
                have HLL : Hid (L1.1.length ≤ 1000000000000) := Lib.hid (by rw [hL1]; exact Nat.le_trans ((HRD.out.dl.rowsOf HAE.out).2.2.2.2.2.2.2 d.place) (by decide))
                rw [← hL1] at HT HR
                have hn2 : (L1.2 != L1.2) = false := by simp
                clear hL1 y1
                go_wp2_with fail
                refine HT.out.mono ?_
                rintro e w7 ⟨v7, rfl, hn7, hb7⟩
                have HN7 := Lib.hid hn7
                obtain ⟨ta, tc, rfl, -⟩ := hn7
                have HB7 := Lib.hid hb7
                have H7 := Lib.hid (HRD.out.keep hb7)
                have y47 := HBC.out w7 H7.out.box 4 _ rfl
                clear hb7 y4
                go_wp2_with fail
                refine (HR.out _ H7.out).mono ?_
                rintro e w8 ⟨v8, rfl, hn8, hb8⟩
                have HN8 := Lib.hid hn8
                obtain ⟨ra, rc, rfl, hs8, -⟩ := hn8
                have HB8 := Lib.hid (HB7.out.trans hb8 (by simp))
                have HN78 := Lib.hid (newRow_but HN7.out hb8)
                obtain ⟨ta', tc', e9, hs7, -⟩ := newRow_but HN7.out hb8
                have hsm := same_bytesX ta ra tc rc L1.1 w8 (by rw [e9]; exact hs7.sees) hs8.sees HLL.out
                have HSM := Lib.hid hsm
                clear hb8 y47 hs8 hs7 e9 hsm
                go_wp2_with fail
                refine HSM.out.mono ?_
                rintro e w9 ⟨rfl, hb9⟩
                have HB9 := Lib.hid (HB8.out.trans hb9 (by simp))
                have HOV := Lib.hid (over_row (newRow_but HN78.out hb9) HLL.out)
                clear hb9 HSM
                go_wp2_with fail
                refine HOV.out.mono ?_
                rintro e w10 ⟨rfl, Lx, hb10, hL10⟩
                have HB10 : Hid (But [] w6 w10) := Lib.hid (HB9.out.trans hb10 (fun x hx => .inr (hL10 x hx)))
                clear hb10 hL10
                go_wp2_with fail
                go_meet
                exact ⟨_, _, _, HAE.out, HRD.out.keep HB10.out⟩
              · have n6 : (q == 6) = false := by simpa using hq6
                clear hq6
                by_cases hq7 : q = 7
                · subst hq7
                  clear n0 n1 n5 n6 hq9 y1
                  obtain ⟨L1, hL1⟩ : ∃ L1, L1 = setA V N rows d.place d.off d.bs := ⟨_, rfl⟩
                  have HT := Lib.hid (fun wx (hb : But [] w6 wx) => (HRD.out.keep hb).setT d.place d.off HVB.out (Nat.le_trans HFW.out.2 (by decide)))
                  have HR := Lib.hid (fun wx (h : RD w wx P X K V N db gk gv w.heap.size OB OS d.ks d.bs E L1.2 B rows) => h.setR d.place d.off a5 c5 HVS.out HVB.out (Nat.le_trans HFW.out.2 (by decide)))
                  rw [← hL1] at HT HR
                  have hn1 : (L1.1 != L1.1) = false := by simp
                  have hkS := HCS.out w6 HRD.out.box
                  obtain ⟨y2, y4, y5⟩ := hkS
                  clear hL1
                  go_upto_region 33 with fail
                  go_region_held3 (fun wx => wx.cell? ⟨db, 2, none⟩ = some (.slice a5 d.bs.length c5) ∧ wx.cell? ⟨db, 4, none⟩ = some (.int .i64 d.place) ∧ wx.cell? ⟨db, 5, none⟩ = some (.int .i64 d.off)) (first | assumption | go_keep) (first | (go_at_call 26; (with_reducible refine (HT.out _ (by first | exact But.refl _ _ | exact (But.refl _ _).drew)).mono ?_); rintro e w7 ⟨rfl, h7⟩; have H7 := Lib.hid h7; clear h7; have hk7 := HCS.out w7 H7.out.box) | (go_at_call 27; (with_reducible refine (HR.out _ (by first | exact H7.out | exact H7.out.keep ((But.refl _ _).drew))).mono ?_); rintro e w8 ⟨rfl, h8⟩; have H8 := Lib.hid h8; clear h8; have hk8 := HCS.out w8 H8.out.box))
                  all_goals
                    go_wp2_with fail
                    go_meet
                    exact ⟨_, _, _, HAE.out, H8.out⟩
                · have n7 : (q == 7) = false := by simpa using hq7
                  clear hq7
                  by_cases hq8 : q = 8
                  · subst hq8
                    clear n0 n1 n5 n6 n7 hq9 y1
                    obtain ⟨XK, hXK⟩ : ∃ XK, XK = keysX K B := ⟨_, rfl⟩
                    have HRL := Lib.hid (HRD.out.dl.rowsOf HAE.out)
                    have HXL : Hid ((∀ r ∈ XK, r.length ≤ 1000000000000) ∧ XK.length ≤ 1024) := Lib.hid (by
                      rw [hXK]
                      obtain ⟨_, k2, k3, k4, _, k6, k7, _⟩ := HRL.out
                      exact ⟨fun r hr => by rw [k6 r hr]; exact Nat.le_trans k2 (by decide), by rw [show (keysX K B).length = B.length from k7]; exact Nat.le_trans k3 k4⟩)
                    have HT := Lib.hid (HRD.out.dl.keysT HAE.out)
                    have HR := Lib.hid (fun wx (hb : But [] w6 wx) => (HRD.out.keep hb).dl.keysR HAE.out)
                    rw [← hXK] at HT HR
                    clear hXK
                    go_wp2_with fail
                    refine HT.out.mono ?_
                    rintro e w7 ⟨ka, kc, rfl, hs7, ⟨vals, hkl⟩, hb7⟩
                    have HS7 := Lib.hid hs7
                    have HKL := Lib.hid hkl
                    have HB7 := Lib.hid hb7
                    clear hs7 hb7 hkl
                    go_wp2_with fail
                    refine (HR.out _ HB7.out).mono ?_
                    rintro e w8 ⟨rka, rkc, rfl, hs8, hb8⟩
                    have HSM := Lib.hid (same_rowsX ka rka kc rkc XK w8 (HS7.out.new hb8) hs8 HXL.out.1 (Nat.le_trans HXL.out.2 (by decide)))
                    have HB8 := Lib.hid (HB7.out.trans hb8 (by simp))
                    have HKL8 := Lib.hid (HKL.out.keep hb8)
                    clear hs8 hb8
                    go_wp2_with fail
                    refine HSM.out.mono ?_
                    rintro e w9 ⟨rfl, hb9⟩
                    have HKL9 := Lib.hid (HKL8.out.keep hb9)
                    have HB9 := Lib.hid (HB8.out.trans hb9 (by simp))
                    clear hb9 HSM
                    go_wp2_with fail
                    go_loopw [23] (fun i wr => ∃ m : Nat, m ≤ XK.length ∧ i = .int .i64 m ∧ KeyL w6.heap.size wr ka XK.length kc vals ∧ But [] w6 wr) (fun i _ => XK.length - (intOf i).toNat)
                    case atStart => exact ⟨0, Nat.zero_le _, rfl, HKL9.out, HB9.out⟩
                    case round =>
                      obtain ⟨m, hm, rfl, hkl, hbm⟩ := hrel
                      have HKM := Lib.hid hkl
                      have HBM := Lib.hid hbm
                      clear hkl hbm
                      by_cases hltm : m < XK.length
                      · obtain ⟨hm0, hm1, hwm, _⟩ := find_nums hltm HXL.out.2
                        obtain ⟨ad, kg, ko, km, kc', e7, hcm, hmem⟩ := HKM.out.at' hltm
                        subst e7
                        have HO := Lib.hid (HKM.out.over hmem)
                        have HLTM := Lib.hid hltm
                        clear hmem hltm
                        go_wp2_with fail
                        refine HO.out.mono ?_
                        rintro e w10 ⟨rfl, hk10, Lx, hb10, hL10⟩
                        have HK10 := Lib.hid hk10
                        have HB10 : Hid (But [] w6 w10) := Lib.hid (HBM.out.trans hb10 (fun x hx => .inr (hL10 x hx)))
                        clear hk10 hb10 hL10 hcm
                        go_wp2_with fail
                        go_roundw
                        case rel => exact ⟨m + 1, HLTM.out, by go_num, HK10.out, HB10.out⟩
                        case measure => first | exact find_meas HLTM.out | exact (by rw [hwm]; exact find_meas HLTM.out)
                      · obtain rfl : m = XK.length := num_eqD hm hltm
                        clear hm hltm
                        go_wp2_with fail
                        go_meet
                        exact ⟨_, _, _, HAE.out, HRD.out.keep HBM.out⟩
                  · have n8 : (q == 8) = false := by simpa using hq8
                    clear hq8
                    obtain ⟨L1, hL1⟩ : ∃ L1, L1 = updT K V N E rows d.ks d.bs d.flags := ⟨_, rfl⟩
                    obtain ⟨M1, hM1⟩ : ∃ M1, M1 = updR K V N B rows d.ks d.bs d.flags := ⟨_, rfl⟩
                    have hdd := HAE.out.upd K V N rows d.ks d.bs d.flags
                    rw [← hL1, ← hM1] at hdd
                    have HAE2 := Lib.hid hdd.2.2
                    have hde := hdd.1
                    have hdr := hdd.2.1
                    have HT := Lib.hid (fun wx (hb : But [] w6 wx) => (HRD.out.keep hb).updT HKB.out HVB.out d.flags)
                    have HR := Lib.hid (fun wx (h : RD w wx P X K V N db gk gv w.heap.size OB OS d.ks d.bs L1.2.1 L1.2.2 B rows) => h.updR a3 a5 c3 c5 HKS.out HKB.out HVS.out HVB.out d.flags HAE.out.places)
                    rw [← hL1] at HT
                    rw [← hM1, hde, hdr] at HR
                    have hn1 : (L1.1 != L1.1) = false := by simp
                    have hkU := HCU.out w6 HRD.out.box
                    obtain ⟨y11, y2, y3⟩ := hkU
                    clear hL1 y1 hM1 hdd hde hdr
                    go_upto_region 15 with fail
                    go_region_held3 (fun wx => wx.cell? ⟨db, 1, none⟩ = some (.slice a3 d.ks.length c3) ∧ wx.cell? ⟨db, 2, none⟩ = some (.slice a5 d.bs.length c5) ∧ wx.cell? ⟨db, 3, none⟩ = some (.int .u64 d.flags)) (first | assumption | go_keep) (first | (go_at_call 12; (with_reducible refine (HT.out _ (by first | exact But.refl _ _ | exact (But.refl _ _).drew)).mono ?_); rintro e w7 ⟨rfl, h7⟩; have H7 := Lib.hid h7; clear h7; have hk7 := HCU.out w7 H7.out.box) | (go_at_call 30; (with_reducible refine (HR.out _ (by first | exact H7.out | exact H7.out.keep ((But.refl _ _).drew))).mono ?_); rintro e w8 ⟨rfl, h8⟩; have H8 := Lib.hid h8; clear h8; have hk8 := HCU.out w8 H8.out.box))
                    all_goals
                      go_wp2_with fail
                      go_meet
                      exact ⟨_, _, _, HAE2.out, H8.out⟩
        case rest =>
          obtain ⟨E2, B2, rows2, hae2, hR2⟩ := hcut
          have HAE2 := Lib.hid hae2
          have HR2 := Lib.hid hR2
          have y1 := HBC.out wc hR2.box 1 _ rfl
          have y2 := HBC.out wc hR2.box 2 _ rfl
          have HKP := Lib.hid (kept _ _ (u8s d.ks) wc hR2.key (HKS.out.but hR2.dl.but (by simp)) (u8s_bytesD _) (by rw [u8s_len]; exact Nat.le_trans HFW.out.1 (by decide)))
          clear hR2 HRD hae2
          go_wp2_with fail
          refine HKP.out.mono ?_
          rintro e w7 ⟨rfl, hb7⟩
          have H7 := Lib.hid (HR2.out.keep hb7)
          have y27 := HBC.out w7 H7.out.box 2 _ rfl
          have HKV := Lib.hid (kept _ _ (u8s d.bs) w7 H7.out.val (HVS.out.but H7.out.dl.but (by simp)) (u8s_bytesD _) (by rw [u8s_len]; exact Nat.le_trans HFW.out.2 (by decide)))
          clear hb7 y1 y2 HKP
          go_wp2_with fail
          refine HKV.out.mono ?_
          rintro e w8 ⟨rfl, hb8⟩
          have H8 := Lib.hid (H7.out.keep hb8)
          have HO1 := Lib.hid (over_lent H8.out.key (by rw [u8s_len]; exact Nat.le_trans HFW.out.1 (by decide)))
          clear hb8 y27 HKV
          go_wp2_with fail
          refine HO1.out.mono ?_
          rintro e w9 ⟨rfl, hb9⟩
          have HB9 : Hid (But [gk] w8 w9) := Lib.hid hb9
          have HO2 := Lib.hid (over_lent (H8.out.val.but hb9 (fun b hb' hm => by cases hb'; exact HGG.out.2.2 (by simpa [Value.ownBlock] using hm))) (by rw [u8s_len]; exact Nat.le_trans HFW.out.2 (by decide)))
          clear hb9 HO1
          go_wp2_with fail
          refine HO2.out.mono ?_
          rintro e w10 ⟨rfl, hb10⟩
          have H10 := Lib.hid (H8.out.over HAE2.out HGG.out.1 HGG.out.2.1 ((HB9.out.mono (M := [gk, gv]) (by simp)).trans (show But [gv] w9 w10 from hb10) (fun x hx => .inl (by have e : x = gv := (by simpa using hx); rw [e]; simp))) (fun x hx => by simpa using hx))
          clear hb10
          go_wp2_with fail
          go_roundw
          case rel => exact ⟨j + 1, HLT.out, by go_num, H10.out⟩
          case measure => first | exact sr_meas HLT.out | exact (by rw [hw1]; exact sr_meas HLT.out)
      · obtain rfl : j = l.length := num_eqD hj hlt
        obtain ⟨XK, hXK⟩ : ∃ XK, XK = keysX K B := ⟨_, rfl⟩
        have HXK := Lib.hid hXK.symm
        have HRL := Lib.hid (HDL.out.rowsOf HAE.out)
        have HXL : Hid ((∀ r ∈ XK, r.length ≤ 1000000000000) ∧ XK.length ≤ 1048576) := Lib.hid (by
          rw [hXK]
          obtain ⟨_, k2, k3, k4, _, k6, k7, _⟩ := HRL.out
          exact ⟨fun r hr => by rw [k6 r hr]; exact Nat.le_trans k2 (by decide), by rw [show (keysX K B).length = B.length from k7]; exact Nat.le_trans k3 (Nat.le_trans k4 (by decide))⟩)
        clear hlt hj hXK
        go_wp2_with fail
        go_loopw [24] (fun i wr => ∃ m : Nat, m ≤ N ∧ i = .int .i64 m ∧ DL w wr [w.heap.size] P X K V N E rows B rows ∧ wr.heap[w.heap.size]? = some OS) (fun i _ => N - (intOf i).toNat)
        case atStart => exact ⟨0, Nat.zero_le _, rfl, HDL.out, HSP.out⟩
        case round =>
          obtain ⟨m, hm, rfl, hdl, hsp⟩ := hrel
          have HD2 := Lib.hid hdl
          have HS9 := Lib.hid hsp
          have s3 : wr.cell? ⟨w.heap.size, 3, none⟩ = some (.int .i64 N) := cl_of (HOS.out ▸ hsp) 3
          clear hdl hsp HDL
          by_cases hlt : m < N
          · obtain ⟨hm0, hm1, hwm, _⟩ := find_nums hlt HBD.out.2.2.2
            obtain ⟨L1, hL1⟩ : ∃ L1, L1 = valA N rows m := ⟨_, rfl⟩
            have HT := Lib.hid (HD2.out.valT m)
            have HR := Lib.hid (fun wx (hb : But [] wr wx) => (HD2.out.keep hb (by simp)).valR m)
            have HLL : Hid (L1.1.length ≤ 1000000000000) := Lib.hid (by rw [hL1]; exact Nat.le_trans (HRL.out.2.2.2.2.2.2.2 m) (by decide))
            rw [← hL1] at HT HR
            have hn2 : (L1.2 != L1.2) = false := by simp
            have HLTM := Lib.hid hlt
            clear hL1 hlt
            go_wp2_with fail
            refine HT.out.mono ?_
            rintro e w7 ⟨v7, rfl, hn7, hb7⟩
            have HN7 := Lib.hid hn7
            obtain ⟨ta, tc, rfl, -⟩ := hn7
            have HB7 := Lib.hid hb7
            clear hb7
            go_wp2_with fail
            refine (HR.out _ HB7.out).mono ?_
            rintro e w8 ⟨v8, rfl, hn8, hb8⟩
            obtain ⟨ra, rc, rfl, hs8, -⟩ := hn8
            have HB8 := Lib.hid (HB7.out.trans hb8 (by simp))
            obtain ⟨ta', tc', e9, hs7, -⟩ := newRow_but HN7.out hb8
            have HSM := Lib.hid (same_bytesX ta ra tc rc L1.1 w8 (by rw [e9]; exact hs7.sees) hs8.sees HLL.out)
            clear hb8 hs8 hs7 e9
            go_wp2_with fail
            refine HSM.out.mono ?_
            rintro e w9 ⟨rfl, hb9⟩
            have HB9 := Lib.hid (HB8.out.trans hb9 (by simp))
            clear hb9 HSM s3
            go_wp2_with fail
            go_roundw
            case rel => exact ⟨m + 1, HLTM.out, by go_num, HD2.out.keep HB9.out (by simp), HB9.out.heap HS9.out (by simp)⟩
            case measure => first | exact find_meas HLTM.out | exact (by rw [hwm]; exact find_meas HLTM.out)
          · obtain rfl : m = N := num_eqD hm hlt
            have HT := Lib.hid (HD2.out.keysT HAE.out)
            have HR := Lib.hid (fun wx (hb : But [] wr wx) => (HD2.out.keep hb (by simp)).keysR HAE.out)
            rw [HXK.out] at HT HR
            clear hlt hm
            go_wp2_with fail
            refine HT.out.mono ?_
            rintro e w7 ⟨ka, kc, rfl, hs7, _, hb7⟩
            have HS7 := Lib.hid hs7
            have HB7 := Lib.hid hb7
            clear hs7 hb7
            go_wp2_with fail
            refine (HR.out _ HB7.out).mono ?_
            rintro e w8 ⟨rka, rkc, rfl, hs8, hb8⟩
            have HSM := Lib.hid (same_rowsX ka rka kc rkc XK w8 (HS7.out.new hb8) hs8 HXL.out.1 HXL.out.2)
            have HB8 := Lib.hid (HB7.out.trans hb8 (by simp))
            clear hs8 hb8
            go_wp2_with fail
            refine HSM.out.mono ?_
            rintro e w9 ⟨rfl, hb9⟩
            have HB9 := Lib.hid (HD2.out.but.trans (HB8.out.trans hb9 (by simp)) (by simp))
            clear hb9
            go_wp2_with fail
            go_ret
            exact ⟨rfl, HB9.out⟩
theorem trieDoes_walk (w : World) (s : MSpec) (v : Value) (l : List DeedA) (hs : (Lit.int .u8 s.k).wf = true ∧ (Lit.int .i64 s.key).wf = true ∧ (Lit.int .i64 s.val).wf = true ∧ (Lit.int .i64 s.ent).wf = true) (hd : SeesDeeds w v l) (hl : l.length ≤ 3518437208780) :
    Calls Try.prog 5 #[s.v, v] w fun e w' => e = .returned (.bool true) ∧ Below w.heap.size w w' :=
  (trieDoes s.k s.key s.val s.ent v l w hs.1 hd).mono fun _ _ ⟨he, hb⟩ => ⟨he, hb.below (Nat.le_refl _) (by simp)⟩
end Go.Proofs.Ytpoinhfkgnkedaa.M
