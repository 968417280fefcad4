/-
  'ArrayKeeps' tells true: the walk.
-/
import Derived.Test.YtkgoblpddjpcnaaKeepA
import Derived.Test.YtkgoblpddjpcnaaArrAwake
import Derived.Test.YtkgoblpddjpcnaaSame
import Derived.Test.YtkgoblpddjpcnaaPick
import Derived.Deep.DeepCutAuto
import Derived.Deep.CutBlock
import Derived.Deep.DrawnRows
import Derived.BigQuiet
namespace Go.Proofs.Ytkgoblpddjpcnaa.M
open Go.RowKit Go.Shelf
set_option linter.unusedVariables false
set_option linter.unusedSectionVars false
set_option linter.unusedSimpArgs false
attribute [local go_sem ↓] Go.wp_at_zero Go.wp_at_succ
theorem map_intK {xs : List Value} (h : ∀ u ∈ xs, ∃ n : Int, u = .int .u8 n) : ∃ ns : List Int, xs = ns.map (.int .u8) := by
  induction xs with
  | nil => exact ⟨[], rfl⟩
  | cons x xs ih =>
    obtain ⟨ns, rfl⟩ := ih (fun u hu => h u (by simp [hu]))
    obtain ⟨n, rfl⟩ := h x (by simp)
    exact ⟨n :: ns, rfl⟩
/-- Two slices that show the same bytes are the same. -/
theorem same_yesK (s t : Value) (xs : List Value) (w : World) (hs : Sees w s xs) (ht : Sees w t xs) (h1 : ∀ u ∈ xs, ∃ n : Int, u = .int .u8 n) (hl : xs.length ≤ 1000000000000) :
    Calls Try.prog 14 #[s, t] w fun e w' => e = .returned (.bool true) ∧ But [] w w' := by
  obtain ⟨ns, rfl⟩ := map_intK h1
  refine (same s t ns ns w hs ht (by simpa using hl)).mono ?_
  rintro e w' ⟨rfl, hb⟩
  exact ⟨by simp, hb⟩
set_option maxRecDepth 100000 in
set_option maxHeartbeats 8000000 in
theorem arrayKeeps (value entries : Int) (v : Value) (rows : List (List Value)) (pv : Value) (pl : List Int) (off : Int) (bv : Value) (xs : List Value) (w : World) (hv : (Lit.int .i64 value).wf = true) (he : (Lit.int .i64 entries).wf = true) (hs : SeesRows w v rows) (hl : rows.length ≤ 140737488351232) (hb : ∀ r ∈ rows, IsBytes r ∧ r.length ≤ 140737488351232) (hp : Sees w pv (pl.map (.int .i64)) ∧ ∀ z ∈ pl, (Lit.int .i64 z).wf = true) (hpl : pl.length ≤ 140737488351232) (hf : (Lit.int .i64 off).wf = true) (hx : Sees w bv xs) (hxb : IsBytes xs) (hxl : xs.length ≤ 140737488351232) :
    Calls Try.prog 4 #[.int .i64 value, .int .i64 entries, v, pv, .int .i64 off, bv] w fun e w' => e = .returned (.bool true) ∧ But [] w w' := by
  obtain ⟨i0, hi, hz0, hz1, hz2⟩ := info_parts (show (Try.prog.info? 22).map (fun i => (i.zero, i.size, i.bytes)) = some (some (.slice none 0 0), 1, 24) by kernel_rfl)
  obtain ⟨j0, ki, kz0, kz1, kz2⟩ := info_parts (show (Try.prog.info? 5).map (fun i => (i.zero, i.size, i.bytes)) = some (some (.int .u8 0), 1, 1) by kernel_rfl)
  obtain ⟨rv, hs1, hs2, hs3⟩ := hs
  have HS2 := Lib.hid hs2
  obtain ⟨ra, rc, e, hrc⟩ := sees_shape hs1
  subst e
  obtain ⟨pa, pc, e, hpc⟩ := sees_shape hp.1
  subst e
  obtain ⟨xa, xc, e, hxc⟩ := sees_shape hx
  subst e
  have HRV := Lib.hid hs1
  have HRE := Lib.hid hs3
  have HRB := Lib.hid hb
  have HPV := Lib.hid hp.1
  have HPB : Hid (∀ z ∈ pl, -9223372036854775808 ≤ z ∧ z ≤ 9223372036854775807) := Lib.hid fun z hz => lit_boundsK (hp.2 z hz)
  have HX := Lib.hid hx
  have HXB := Lib.hid hxb
  have HVB := Lib.hid (lit_boundsK hv)
  have HEB := Lib.hid (lit_boundsK he)
  have HFB := Lib.hid (lit_boundsK hf)
  have hml : (pl.map (Value.int .i64)).length = pl.length := List.length_map _
  rw [hml] at HPV
  rw [hml]
  have hrvl : rv.length ≤ 140737488351232 := by omega
  clear hs1 hs2 hs3 hb hv he hrc hp hx hxb hf hpc hxc hml
  go_enter Try.func4, Try.ntmps4
  go_wp2_with fail
  refine (awake _).mono ?_
  rintro e w1 ⟨rfl, hb1⟩
  have HB1 := Lib.hid hb1
  clear hb1
  by_cases hlong : 100 < rv.length ∨ 100 < pl.length ∨ 100 < xs.length
  · rcases (by omega : 100 < rv.length ∨ (¬ 100 < rv.length ∧ 100 < pl.length) ∨ (¬ 100 < rv.length ∧ ¬ 100 < pl.length ∧ 100 < xs.length)) with h1 | ⟨h1, h2⟩ | ⟨h1, h2, h3⟩
    · have g1 : decide ((100 : Int) < rv.length) = true := by simp; omega
      go_wp2_with fail
      go_ret
      exact ⟨rfl, HB1.out⟩
    · have g1 : decide ((100 : Int) < rv.length) = false := by simp; omega
      have g2 : decide ((100 : Int) < pl.length) = true := by simp; omega
      go_wp2_with fail
      go_ret
      exact ⟨rfl, HB1.out⟩
    · have g1 : decide ((100 : Int) < rv.length) = false := by simp; omega
      have g2 : decide ((100 : Int) < pl.length) = false := by simp; omega
      have g3 : (100 : Int) < xs.length := by omega
      go_wp2_with fail
      go_ret
      exact ⟨rfl, HB1.out⟩
  · have g1 : decide ((100 : Int) < rv.length) = false := by simp; omega
    have g2 : decide ((100 : Int) < pl.length) = false := by simp; omega
    have g3 : ¬ (100 : Int) < xs.length := by omega
    clear hlong
    go_wp2_with fail
    refine (pick value 40 _ (by omega) (by omega) HVB.out.1 HVB.out.2).mono ?_
    rintro e w1' ⟨rfl, rfl⟩
    obtain ⟨p1, hp1⟩ : ∃ p, p = value % 40 := ⟨_, rfl⟩
    have hp1b : 0 ≤ p1 ∧ p1 < 40 := by omega
    rw [← hp1]
    clear hp1
    go_wp2_with fail
    refine (pick entries 40 _ (by omega) (by omega) HEB.out.1 HEB.out.2).mono ?_
    rintro e w1' ⟨rfl, rfl⟩
    obtain ⟨p2, hp2⟩ : ∃ p, p = entries % 40 := ⟨_, rfl⟩
    have hp2b : 0 ≤ p2 ∧ p2 < 40 := by omega
    rw [← hp2]
    clear hp2
    obtain ⟨n, hn⟩ : ∃ n : Nat, 1 + p1 = (n : Int) := ⟨(1 + p1).toNat, by omega⟩
    obtain ⟨ent, hent⟩ : ∃ ent : Nat, 1 + p2 = (ent : Int) := ⟨(1 + p2).toNat, by omega⟩
    obtain ⟨sb, hsb⟩ : ∃ sb, sb = w1.heap.size := ⟨_, rfl⟩
    have hn1 : 1 ≤ n ∧ n ≤ 40 := by omega
    have he1 : 1 ≤ ent ∧ ent ≤ 40 := by omega
    obtain ⟨wc, hwc⟩ : ∃ wc, wc = w1.alloc (.cells #[.int .u8 1, .int .i64 4, .int .i64 n, .int .i64 ent] 47) := ⟨_, rfl⟩
    have HN := Lib.hid hn
    have HENT := Lib.hid hent
    have HSB := Lib.hid hsb
    have HWC := Lib.hid hwc
    have hbox : wc.heap[sb]? = some (.cells #[.int .u8 1, .int .i64 4, .int .i64 n, .int .i64 ent] 47) := by rw [hwc, hsb]; exact al_at _ _
    have HBC : Hid (But [] w1 wc) := Lib.hid (by rw [hwc]; exact (But.refl _ _).alloc _)
    have HBOX := Lib.hid hbox
    clear hn hent hsb hwc hbox
    go_upto_region 6 with fail
    rw [HN.out, HENT.out, ← HWC.out, ← HSB.out]
    have c0 : wc.cell? ⟨sb, 0, none⟩ = some (.int .u8 1) := cl_of HBOX.out 0
    have c1 : wc.cell? ⟨sb, 1, none⟩ = some (.int .i64 4) := cl_of HBOX.out 1
    have c2 : wc.cell? ⟨sb, 2, none⟩ = some (.int .i64 n) := cl_of HBOX.out 2
    have c3 : wc.cell? ⟨sb, 3, none⟩ = some (.int .i64 ent) := cl_of HBOX.out 3
    go_wp2_with fail
    refine (newArr n ent (by omega) (by omega) (specE_keep (by omega) (by omega)) (fun b => wc.heap.size ≤ b) (fun b hb => hb)).mono ?_
    rintro e w2 ⟨A, rfl, hA, hb2⟩
    obtain ⟨ga, hga⟩ : ∃ ga, ga = w2.heap.size := ⟨_, rfl⟩
    obtain ⟨w3, hw3⟩ : ∃ w3, w3 = w2.alloc (.cells (madeCells #[.slice none 0 0] ent) 22) := ⟨_, rfl⟩
    have hks := KS.start HB1.out HSB.out HBC.out HBOX.out hb2 hA (by omega)
    rw [← hga, ← hw3] at hks
    have HKS := Lib.hid hks
    have d3 : w2.cell? ⟨sb, 3, none⟩ = some (.int .i64 ent) := cell_but hb2 c3 (by simp)
    clear hks hA hb2 c0 c1 c2 c3 HBOX HBC
    have hmk : ∀ w, (Instr.makeSlice 28 (.int .i64 (ent : Int)) (.int .i64 (ent : Int))).run Try.prog w = .ok (.slice (some ⟨w.heap.size, 0, none⟩) ent ent) (w.alloc (.cells (madeCells #[.slice none 0 0] ent) 22)) := fun w => by
      have h := run_make (P := Try.prog) w 28 22 i0 (.slice none 0 0) Try.underlying28 hi hz0 .i64 .i64 (ent : Int) (ent : Int) (by omega) (by omega) (by rw [hz2]; omega) (by omega)
      rw [h, hz1]
      simp only [Int.toNat_natCast, Nat.mul_one]
      rfl
    have hmk2 : ∀ w, (Instr.makeSlice 22 (.int .i64 (n : Int)) (.int .i64 (n : Int))).run Try.prog w = .ok (.slice (some ⟨w.heap.size, 0, none⟩) n n) (w.alloc (.cells (madeCells #[.int .u8 0] n) 5)) := fun w => by
      have h := run_make (P := Try.prog) w 22 5 j0 (.int .u8 0) Try.underlying22 ki kz0 .i64 .i64 (n : Int) (n : Int) (by omega) (by omega) (by rw [kz2]; omega) (by omega)
      rw [h, kz1]
      simp only [Int.toNat_natCast, Nat.mul_one]
      rfl
    have HMK2 := Lib.hid hmk2
    clear hmk2 hi hz0 hz1 hz2 ki kz0 kz1 kz2
    go_upto_block 0 with fail
    rw [← hga, ← hw3]
    clear hmk d3 hga hw3
    go_cut [] (fun wx => ∃ col vals, KS w A sb n ent col (.slice (some ⟨ga, 0, none⟩) ent ent) wx (List.replicate ent (zeros n)) (List.replicate ent (zeros n)) vals)
    case first =>
      go_wp2_with fail
      go_loopw [17] (fun i wr => ∃ k : Nat, k ≤ ent ∧ i = .int .i64 k ∧ ∃ col ss vals, KS w A sb n ent col (.slice (some ⟨ga, 0, none⟩) ent ent) wr (List.replicate ent (zeros n)) ss vals ∧ ss.length = ent ∧ ∀ j, j < k → ss[j]? = some (zeros n)) (fun i _ => ent - (intOf i).toNat)
      case atStart =>
        obtain ⟨col, vals, h⟩ := HKS.out
        exact ⟨0, Nat.zero_le _, rfl, col, _, vals, h, by simp, fun j hj => by omega⟩
      case round =>
        obtain ⟨k, hk, rfl, col, ss, vals, hK, hsl, hsj⟩ := hrel
        have c3 : wr.cell? ⟨sb, 3, none⟩ = some (.int .i64 ent) := cl_of hK.box 3
        have c2 : wr.cell? ⟨sb, 2, none⟩ = some (.int .i64 n) := cl_of hK.box 2
        have HK := Lib.hid hK
        by_cases hlt : k < ent
        · have hvk : k < vals.length := by rw [hK.len, hsl]; exact hlt
          have hck : wr.cell? ⟨ga, k, none⟩ = some (vals[k]) := by
            have h := hK.allq.cellAt (k := k) (List.getElem?_eq_getElem hvk)
            rwa [Nat.zero_add] at h
          have hfk : wr.frozen? ⟨ga, k, none⟩ = false := hK.allq.frozenAt k
          have hk0 : (0 : Int) ≤ k := by omega
          have hk1 : (k : Int) < ent := by omega
          have hmk2 := HMK2.out
          have hca := cell_alloc_l (.cells (madeCells #[.int .u8 0] n) 5) hck
          have hfa := frozen_alloc_l (.cells (madeCells #[.int .u8 0] n) 5) hck hfk
          clear hK hck hfk
          go_wp2_with fail
          go_roundw
          case rel =>
            obtain ⟨hv, hg4, hm⟩ := HK.out.zeroRow (by omega)
            obtain ⟨col', h'⟩ := hm.put hv rfl hg4 hvk
            rw [Nat.zero_add] at h'
            refine ⟨k + 1, by omega, by go_num, col', _, _, h', by rw [List.length_set]; exact hsl, fun j hj => ?_⟩
            by_cases hjk : k = j
            · subst hjk; exact List.getElem?_set_self (by omega)
            · rw [List.getElem?_set_ne hjk]; exact hsj j (by omega)
          case measure => simp [intOf]; omega
        · obtain rfl : k = ent := by omega
          clear hK
          go_wp2_with fail
          go_meet
          refine ⟨col, vals, ?_⟩
          rw [show List.replicate k (zeros n) = ss from List.ext_getElem? fun j => by
            by_cases hj : j < k
            · rw [hsj j hj, List.getElem?_replicate, if_pos hj]
            · rw [List.getElem?_eq_none (by simp; omega), List.getElem?_eq_none (by omega)]]
          have h := HK.out
          rw [show List.replicate k (zeros n) = ss from List.ext_getElem? fun j => by
            by_cases hj : j < k
            · rw [hsj j hj, List.getElem?_replicate, if_pos hj]
            · rw [List.getElem?_eq_none (by simp; omega), List.getElem?_eq_none (by omega)]] at h
          exact h
    case rest =>
      obtain ⟨col, vals, hK0⟩ := hcut
      have HK0 := Lib.hid hK0
      clear hK0 HKS
      go_upto_block 2 with fail
      go_cut [] (fun wx => ∃ col ss vals, KS w A sb n ent col (.slice (some ⟨ga, 0, none⟩) ent ent) wx ss ss vals ∧ ss.length = ent)
      case first =>
        go_wp2_with fail
        go_loopw [18] (fun i wr => ∃ k : Nat, k ≤ rv.length ∧ i = .int .i64 k ∧ ∃ col ss vals, KS w A sb n ent col (.slice (some ⟨ga, 0, none⟩) ent ent) wr ss ss vals ∧ ss.length = ent) (fun i _ => rv.length - (intOf i).toNat)
        case atStart => exact ⟨0, Nat.zero_le _, rfl, col, _, vals, HK0.out, by simp⟩
        case round =>
          obtain ⟨k, hk, rfl, col, ss, vals, hK, hsl⟩ := hrel
          have HK := Lib.hid hK
          clear HK0
          by_cases hlt : k < rv.length
          · have d1 : decide ((k : Int) < rv.length) = true := by simp; omega
            have hk1 : (k : Int) < rv.length := by omega
            have hk0 : (0 : Int) ≤ k := by omega
            by_cases hlp : k < pl.length
            · have d2 : decide ((k : Int) < pl.length) = true := by simp; omega
              have hk2 : (k : Int) < pl.length := by omega
              obtain ⟨x, hx⟩ : ∃ x, rv[k]? = some x := ⟨_, List.getElem?_eq_getElem hlt⟩
              obtain ⟨rr, hrr⟩ : ∃ rr, rows[k]? = some rr := ⟨_, List.getElem?_eq_getElem (by have := HS2.out; omega)⟩
              obtain ⟨z, hz⟩ : ∃ z, pl[k]? = some z := ⟨_, List.getElem?_eq_getElem hlp⟩
              have hsx := HRE.out k x rr hx hrr
              obtain ⟨ya, yc, rfl, _⟩ := sees_shape hsx
              obtain ⟨ad, rfl, hrc⟩ := rows_addrK HRV.out hx
              obtain ⟨pd, rfl, hpc⟩ := rows_addrK HPV.out (k := k) (x := .int .i64 z) (by rw [List.getElem?_map, hz]; rfl)
              have HSX := Lib.hid hsx
              have HYB := Lib.hid (HRB.out rr (List.mem_of_getElem? hrr)).1
              have HZB := Lib.hid (HPB.out z (List.mem_of_getElem? hz))
              have hbw := hK.but
              have g4 := cell_alloc_l (.cells (madeCells #[.int .u8 0] n) 5) (cell_but hbw hrc (by simp))
              have HPC := Lib.hid hpc
              have c2 : wr.cell? ⟨sb, 2, none⟩ = some (.int .i64 n) := cl_of hK.box 2
              have hmk2 := HMK2.out
              have HG0 : Hid ((wr.alloc (.cells (madeCells #[.int .u8 0] n) 5)).heap[wr.heap.size]? = some (.cells (zeros n).toArray 5 (0, 0))) := Lib.hid (by rw [zeros, Array.toArray_toList]; exact al_at _ _)
              have HLN : Hid ((rr.take n).length = Nat.min rr.length n) := Lib.hid (by rw [List.length_take]; exact Nat.min_comm _ _)
              have HPOS : Hid (0 < (rr.take n).length → ∃ ad, ya = some ad ∧ ∀ (j : Nat) (v : Value), (rr.take n)[j]? = some v → (wr.alloc (.cells (madeCells #[.int .u8 0] n) 5)).cell? (ad.add j) = some v) := Lib.hid fun h => sees_takeK (HSX.out.but (hbw.alloc _) (by simp)) h
              have HFIT : Hid (0 + (rr.take n).length ≤ (zeros n).length) := Lib.hid (by rw [zeros_len, List.length_take]; omega)
              have H1C : Hid (∀ v ∈ rr.take n, v.oneCell' = true) := Lib.hid fun v hv => HYB.out.one v (List.mem_of_mem_take hv)
              obtain ⟨_, hg4, hm⟩ := hK.zeroRow (by omega)
              have KEYC : Hid (∀ (w5 : World) (hg : w5.heap[wr.heap.size]? = some (.cells (splice (zeros n) 0 (rr.take n)).toArray 5 (0, 0))) (hb5 : But [wr.heap.size] (wr.alloc (.cells (madeCells #[.int .u8 0] n) 5)) w5), ∃ (r : List Value) (col' : Nat → Nat), OwnQ w5 5 (.slice (some ⟨wr.heap.size, 0, none⟩) n n) r ∧ IsBytes r ∧ r.length = n ∧ col' wr.heap.size = 4 ∧ KS w A sb n ent col' (.slice (some ⟨ga, 0, none⟩) ent ent) w5 ss ss vals) := Lib.hid fun w5 hg hb5 => by
                obtain ⟨q1, q2, q3⟩ := copiedK (by rw [List.length_take]; omega) (fun v hv => HYB.out v (List.mem_of_mem_take hv)) (by unfold maxLen; omega) hg
                exact ⟨_, _, q1, q2, q3, hg4, hm.made hb5 (fun x hx => by simp only [List.mem_singleton] at hx; subst hx; exact hg4)⟩
              clear hx hrr hz hsx hrc hpc hbw hK hg4 hm
              go_upto_region 18 with fail
              go_cut [] (fun w5 => ∃ (r : List Value) (col' : Nat → Nat), OwnQ w5 5 (.slice (some ⟨wr.heap.size, 0, none⟩) n n) r ∧ IsBytes r ∧ r.length = n ∧ col' wr.heap.size = 4 ∧ KS w A sb n ent col' (.slice (some ⟨ga, 0, none⟩) ent ent) w5 ss ss vals)
              case first =>
                go_wp2_with ((with_reducible refine (show wpList _ _ _ (⟨some 93, _, _, _, _, _⟩ :: _) _ _ from ?_)); refine wpList_copy_but rfl (.tmp 88) (.tmp 92) 22 22 rfl 5 Try.underlying22 (by kernel_rfl) (some ⟨wr.heap.size, 0, none⟩) ya n n rr.length yc rfl rfl wr.heap.size 0 (zeros n) 5 HG0.out (rr.take n) HLN.out (fun h => ⟨rfl, HPOS.out h⟩) HFIT.out H1C.out ?_; intro w5 hg5 hb5; have HKC := Lib.hid (KEYC.out w5 hg5 hb5); clear hg5 hb5)
                go_meet
                exact HKC.out
              case rest =>
              obtain ⟨r, col5, hv5, hrb, hrl, hcg5, hK5⟩ := hcut
              obtain ⟨gv, hgv⟩ : ∃ gv, gv = wr.heap.size := ⟨_, rfl⟩
              rw [← hgv] at hv5 hcg5 ⊢
              have HV5 := Lib.hid hv5
              have HRBY := Lib.hid hrb
              have HK5 := Lib.hid hK5
              have c3 : wc.cell? ⟨sb, 3, none⟩ = some (.int .i64 ent) := cl_of hK5.box 3
              clear hv5 hrb hK5 hgv HK KEYC HG0 HLN HPOS HFIT H1C g4 c2 hmk2
              go_upto_region 19 with fail
              have r3 : wc.cell? (pd.add k) = some (.int .i64 z) := cell_but HK5.out.but HPC.out (by simp)
              have hwrp : IntKind.i64.wrap ((ent : Int) + 2) = (ent : Int) + 2 := by rw [IntKind.wrap_i64]; omega
              go_quiet ((go_at_call 11; exact (pick z ((ent : Int) + 2) _ (by omega) (by omega) HZB.out.1 HZB.out.2).mono fun _ _ h => ⟨h.1, _, h.2.symm⟩))
              have hq0 : 0 ≤ z % ((ent : Int) + 2) := Int.emod_nonneg _ (by omega)
              have hq1 : z % ((ent : Int) + 2) < (ent : Int) + 2 := Int.emod_lt_of_pos _ (by omega)
              obtain ⟨q, hq⟩ : ∃ q : Nat, z % ((ent : Int) + 2) = (q : Int) := ⟨(z % ((ent : Int) + 2)).toNat, by omega⟩
              have hql : q < ent + 2 := by omega
              rw [hq]
              obtain ⟨w6, hw6⟩ : ∃ w6, w6 = wc.drewN nq := ⟨_, rfl⟩
              have hb6 : But [] wc w6 := by rw [hw6]; exact (But.refl [] wc).drewN _
              rw [← hw6]
              have HK6 := Lib.hid (HK5.out.new hb6)
              have HV6 := Lib.hid (HV5.out.but hb6 (by simp))
              clear hq hw6 hb6 HK5 HV5 r3 c3 hq0 hq1 hwrp
              go_wp2_with fail
              refine (key q w6 (by omega)).mono ?_
              rintro e w7 ⟨rfl, hk7, hb7⟩
              have HK7 := Lib.hid (HK6.out.new hb7)
              have HV7 := Lib.hid (HV6.out.but hb7 (by simp))
              have HY7 := Lib.hid hk7
              clear hk7 hb7 HK6 HV6
              by_cases hqe : q < ent
              · go_wp2_with fail
                refine (lookup_ok HK7.out.arr _ _ _ _ _ _ HY7.out q (sumK_small q (by omega)) (by omega)).mono ?_
                rintro e w8 ⟨rfl, hb8⟩
                have HK8 := Lib.hid (HK7.out.new hb8)
                have HV8 := Lib.hid (HV7.out.but hb8 (by simp))
                clear hb8 HK7 HV7 HY7
                go_wp2_with fail
                refine (key q w8 (by omega)).mono ?_
                rintro e w9 ⟨rfl, hk9, hb9⟩
                have HK9 := Lib.hid (HK8.out.new hb9)
                have HV9 := Lib.hid (HV8.out.but hb9 (by simp))
                have HY9 := Lib.hid hk9
                clear hk9 hb9 HK8 HV8
                go_wp2_with fail
                refine (update_ok HK9.out.arr _ _ _ _ _ _ HY9.out rfl (by omega) (by omega) q (sumK_small q (by omega)) (by omega) HV9.out.sees (by omega) HRBY.out).mono ?_
                rintro e w10 ⟨rfl, hA, g, hg, hb10⟩
                have HV10 := Lib.hid (HV9.out.but hb10 (fun b hb hm => by
                  simp only [List.mem_singleton] at hm
                  cases hb
                  subst hm
                  have h1 : col5 gv = 1 := hg
                  omega))
                have hK10 := HK9.out.arrTurn hg hb10 hA
                have HK10 := Lib.hid hK10
                have c3 : w10.cell? ⟨sb, 3, none⟩ = some (.int .i64 ent) := cl_of hK10.box 3
                have hvq : q < vals.length := by rw [hK10.len, hsl]; exact hqe
                have hcq : w10.cell? ⟨ga, q, none⟩ = some (vals[q]) := by
                  have h := hK10.allq.cellAt (k := q) (List.getElem?_eq_getElem hvq)
                  rwa [Nat.zero_add] at h
                have hfq : w10.frozen? ⟨ga, q, none⟩ = false := hK10.allq.frozenAt q
                have hq2 : ¬ (ent : Int) ≤ q := by omega
                have hq3 : (q : Int) < ent := by omega
                have hq4 : (0 : Int) ≤ q := by omega
                clear hA hg hb10 HK9 HV9 HY9 hK10
                go_wp2_with fail
                go_roundw
                case rel =>
                  obtain ⟨col', h'⟩ := HK10.out.put HV10.out rfl hcg5 hvq
                  rw [Nat.zero_add] at h'
                  exact ⟨k + 1, by omega, by go_num, col', _, _, h', by rw [List.length_set]; exact hsl⟩
                case measure => simp [intOf]; omega
              · go_wp2_with fail
                refine (lookup_none HK7.out.arr _ _ _ _ _ _ HY7.out (.inr (by rw [sumK_small q (by omega)]; omega))).mono ?_
                rintro e w8 ⟨rfl, hb8⟩
                have HK8 := Lib.hid (HK7.out.new hb8)
                have HV8 := Lib.hid (HV7.out.but hb8 (by simp))
                clear hb8 HK7 HV7 HY7
                go_wp2_with fail
                refine (key q w8 (by omega)).mono ?_
                rintro e w9 ⟨rfl, hk9, hb9⟩
                have HK9 := Lib.hid (HK8.out.new hb9)
                have HV9 := Lib.hid (HV8.out.but hb9 (by simp))
                have HY9 := Lib.hid hk9
                clear hk9 hb9 HK8 HV8
                go_wp2_with fail
                refine (update_none HK9.out.arr _ _ _ _ _ _ HY9.out rfl (by omega) (.inr (by rw [sumK_small q (by omega)]; omega))).mono ?_
                rintro e w10 ⟨rfl, hb10⟩
                have hK10 := HK9.out.new hb10
                have HK10 := Lib.hid hK10
                have c3 : w10.cell? ⟨sb, 3, none⟩ = some (.int .i64 ent) := cl_of hK10.box 3
                have hq2 : (ent : Int) ≤ q := by omega
                clear hb10 HK9 HV9 HY9 hK10
                go_wp2_with fail
                go_roundw
                case rel => exact ⟨k + 1, by omega, by go_num, col5, _, _, HK10.out, hsl⟩
                case measure => simp [intOf]; omega
            · have d2 : decide ((k : Int) < pl.length) = false := by simp; omega
              go_wp2_with fail
              go_meet
              exact ⟨col, ss, vals, HK.out, hsl⟩
          · have d1 : decide ((k : Int) < rv.length) = false := by simp; omega
            go_wp2_with fail
            go_meet
            exact ⟨col, ss, vals, HK.out, hsl⟩
      case rest =>
        obtain ⟨col, ss, vals, hK, hsl⟩ := hcut
        have HK := Lib.hid hK
        have c3 : wc.cell? ⟨sb, 3, none⟩ = some (.int .i64 ent) := cl_of hK.box 3
        have c2 : wc.cell? ⟨sb, 2, none⟩ = some (.int .i64 n) := cl_of hK.box 2
        clear HK0 hK
        go_wp2_with fail
        refine (pick off (ent : Int) _ (by omega) (by omega) HFB.out.1 HFB.out.2).mono ?_
        rintro e w1' ⟨rfl, rfl⟩
        have hq0 : 0 ≤ off % (ent : Int) := Int.emod_nonneg _ (by omega)
        have hq1 : off % (ent : Int) < (ent : Int) := Int.emod_lt_of_pos _ (by omega)
        obtain ⟨q, hq⟩ : ∃ q : Nat, off % (ent : Int) = (q : Int) := ⟨(off % (ent : Int)).toNat, by omega⟩
        have hql : q < ent := by omega
        rw [hq]
        clear hq hq0 hq1
        go_wp2_with fail
        refine (pick off (n : Int) _ (by omega) (by omega) HFB.out.1 HFB.out.2).mono ?_
        rintro e w1' ⟨rfl, rfl⟩
        have hq0 : 0 ≤ off % (n : Int) := Int.emod_nonneg _ (by omega)
        have hq1 : off % (n : Int) < (n : Int) := Int.emod_lt_of_pos _ (by omega)
        obtain ⟨o, ho⟩ : ∃ o : Nat, off % (n : Int) = (o : Int) := ⟨(off % (n : Int)).toNat, by omega⟩
        have hol : o < n := by omega
        rw [ho]
        clear ho hq0 hq1
        obtain ⟨r, hr⟩ : ∃ r, ss[q]? = some r := ⟨_, List.getElem?_eq_getElem (by omega)⟩
        have hrl : r.length = n := (HK.out.arr.each r (List.mem_of_getElem? hr)).2
        have hx : Sees wc (.slice xa xs.length xc) xs := HX.out.but HK.out.but (by simp)
        have hset : Calls Try.prog 10 #[.pointer (some ⟨A, 0, none⟩), .int .i64 q, .int .i64 o, .slice xa xs.length xc] wc fun e w' => ∃ b : Int, e = .returned (.int .i64 b) ∧ ((b = 0 ∧ o + xs.length ≤ n ∧ KS w A sb n ent col (.slice (some ⟨ga, 0, none⟩) ent ent) w' (ss.set q (splice r o xs)) ss vals) ∨ (b = 32 ∧ ¬ o + xs.length ≤ n ∧ KS w A sb n ent col (.slice (some ⟨ga, 0, none⟩) ent ent) w' ss ss vals)) := by
          by_cases hfit : o + xs.length ≤ n
          · refine (set_ok HK.out.arr q r hr o xa xs.length xc hfit hx rfl HXB.out).mono ?_
            rintro e w' ⟨rfl, hA, g, hg, hb⟩
            exact ⟨0, rfl, .inl ⟨rfl, hfit, HK.out.arrTurn hg hb hA⟩⟩
          · refine (set_boundsC HK.out.arr q (by omega) o xa xs.length xc (by omega) (by omega) (by omega)).mono ?_
            rintro e w' ⟨rfl, hb⟩
            exact ⟨32, rfl, .inr ⟨rfl, hfit, HK.out.new hb⟩⟩
        have HSET := Lib.hid hset
        have HRR := Lib.hid hr
        have HVS := Lib.hid (⟨_, HK.out.each q⟩ : ∃ P, P)
        clear hset hr hx c2 c3 HVS
        go_wp2_with fail
        refine HSET.out.mono ?_
        rintro e w2' ⟨b, rfl, hor⟩
        go_upto_if 156 with fail
        go_cut [] (fun wx => ∃ col ss vals, KS w A sb n ent col (.slice (some ⟨ga, 0, none⟩) ent ent) wx ss ss vals ∧ ss.length = ent)
        case first =>
          rcases hor with ⟨rfl, hfit, hK2⟩ | ⟨rfl, hfit, hK2⟩
          · obtain ⟨v0, hv0⟩ : ∃ v0, vals[q]? = some v0 := ⟨_, List.getElem?_eq_getElem (by rw [hK2.len]; omega)⟩
            obtain ⟨hov, hcv⟩ := hK2.each q v0 r hv0 HRR.out
            obtain ⟨va, vc, rfl⟩ := hov.form
            rw [hrl] at hv0 hov
            obtain ⟨g, go, rfl⟩ := hov.addr (by omega)
            have hvc : n ≤ vc := by
              rcases hov with ⟨h, _⟩ | ⟨_, _, _, _, h, _, h', _⟩
              · cases h
              · simp only [Value.slice.injEq] at h; obtain ⟨_, _, rfl⟩ := h; omega
            have hvc1 : ¬ vc - o = 0 := by omega
            have hvc2 : o ≤ n := by omega
            have hvc3 : (o : Int) ≤ n := by omega
            have ho0 : (0 : Int) ≤ o := by omega
            have hq0 : (0 : Int) ≤ q := by omega
            have hq3 : (q : Int) < ent := by omega
            have cq : w2'.cell? ⟨ga, q, none⟩ = some (.slice (some ⟨g, go, none⟩) n vc) := by
              have h := hK2.allq.cellAt hv0
              rwa [Nat.zero_add] at h
            have HK2 := Lib.hid hK2
            have HOV := Lib.hid hov
            have HV0 := Lib.hid hv0
            have HCV := Lib.hid hcv
            have hcur : ∃ cur : List Value, w2'.heap[g]? = some (.cells cur.toArray 5 (0, 0)) ∧ go + n ≤ cur.length := by
              rcases hov with ⟨h, _⟩ | ⟨g', o', cap', cur, h, hg', hc', hm', hs', _⟩
              · cases h
              · simp only [Value.slice.injEq, Option.some.injEq, Addr.mk.injEq] at h
                obtain ⟨⟨rfl, rfl, _⟩, _, rfl⟩ := h
                exact ⟨cur.toList, by rw [Array.toArray_toList]; exact hg', by rw [Array.length_toList]; omega⟩
            obtain ⟨cur, hcg, hcl⟩ := hcur
            have HCG := Lib.hid hcg
            have HLN : Hid (xs.length = Nat.min xs.length (n - o)) := Lib.hid (Nat.min_eq_left (by omega)).symm
            have HFIT : Hid (go + o + xs.length ≤ cur.length) := Lib.hid (by omega)
            have HPOS : Hid (0 < xs.length → ∃ ad, xa = some ad ∧ ∀ (j : Nat) (v : Value), xs[j]? = some v → w2'.cell? (ad.add j) = some v) := Lib.hid fun h => sees_src (HX.out.but HK2.out.but (by simp)) h
            have KEYC : Hid (∀ (w5 : World), w5.heap[g]? = some (.cells (splice cur (go + o) xs).toArray 5 (0, 0)) → But [g] w2' w5 → KS w A sb n ent col (.slice (some ⟨ga, 0, none⟩) ent ent) w5 (ss.set q (splice r o xs)) (ss.set q (splice r o xs)) vals) := Lib.hid fun w5 hg hb => HK2.out.write HV0.out HRR.out HCG.out (by omega) hg hb
            clear hK2 hov hv0 hcv hvc hcg hcl
            go_wp2_with ((with_reducible refine (show wpList _ _ _ (⟨some 164, _, _, _, _, _⟩ :: _) _ _ from ?_)); refine wpList_copy_but rfl (.tmp 162) (.tmp 163) 22 22 rfl 5 Try.underlying22 (by kernel_rfl) (some ⟨g, go + o, none⟩) xa (n - o) (vc - o) xs.length xc rfl rfl g (go + o) cur 5 HCG.out xs HLN.out (fun h => ⟨rfl, HPOS.out h⟩) HFIT.out HXB.out.one ?_; intro w5 hg5 hb5; have HKC := Lib.hid (KEYC.out w5 hg5 hb5); clear hg5 hb5)
            go_meet
            exact ⟨col, _, vals, HKC.out, by rw [List.length_set]; exact hsl⟩
          · have c2 : w2'.cell? ⟨sb, 2, none⟩ = some (.int .i64 n) := cl_of hK2.box 2
            have HK2 := Lib.hid hK2
            have hnf : ¬ (xs.length : Int) ≤ (n : Int) - o := by omega
            clear hK2 hfit
            go_wp2_with fail
            go_meet
            exact ⟨col, ss, vals, HK2.out, hsl⟩
        case rest =>
        obtain ⟨col2, ss2, vals2, hK2, hsl2⟩ := hcut
        have HK2 := Lib.hid hK2
        clear hK2 HK HRR HSET hor
        go_wp2_with fail
        go_loopw [26] (fun i wr => ∃ k : Nat, k ≤ ent ∧ i = .int .i64 k ∧ KS w A sb n ent col2 (.slice (some ⟨ga, 0, none⟩) ent ent) wr ss2 ss2 vals2) (fun i _ => ent - (intOf i).toNat)
        case atStart => exact ⟨0, Nat.zero_le _, rfl, HK2.out⟩
        case round =>
          obtain ⟨k, hk, rfl, hK⟩ := hrel
          have c3 : wr.cell? ⟨sb, 3, none⟩ = some (.int .i64 ent) := cl_of hK.box 3
          have HK := Lib.hid hK
          clear hK
          by_cases hlt : k < ent
          · have hk1 : (k : Int) < ent := by omega
            have hk0 : (0 : Int) ≤ k := by omega
            obtain ⟨r, hr⟩ : ∃ r, ss2[k]? = some r := ⟨_, List.getElem?_eq_getElem (by omega)⟩
            obtain ⟨v0, hv0⟩ : ∃ v0, vals2[k]? = some v0 := ⟨_, List.getElem?_eq_getElem (by rw [HK.out.len]; omega)⟩
            obtain ⟨hrb, hrl⟩ := HK.out.arr.each r (List.mem_of_getElem? hr)
            have HR := Lib.hid hr
            have HV0 := Lib.hid hv0
            have HRB2 := Lib.hid hrb
            have HRL := Lib.hid hrl
            clear hr hv0 hrb hrl
            go_wp2_with fail
            refine (value_ok HK.out.arr k r HR.out).mono ?_
            rintro e w5 ⟨a5, c5, rfl, ho5, _, hb5⟩
            have HK5 := Lib.hid (HK.out.new hb5)
            have HV5 := Lib.hid ho5
            have ck : w5.cell? ⟨ga, k, none⟩ = some v0 := by
              have h := HK5.out.allq.cellAt HV0.out
              rwa [Nat.zero_add] at h
            clear ho5 hb5 HK
            go_wp2_with fail
            refine (same_yesK _ _ r _ HV5.out.sees (HK5.out.each k v0 r HV0.out HR.out).1.sees HRB2.out (by have := HRL.out; omega)).mono ?_
            rintro e w6 ⟨rfl, hb6⟩
            have HK6 := Lib.hid (HK5.out.new hb6)
            clear hb6
            go_wp2_with fail
            go_roundw
            case rel => exact ⟨k + 1, by omega, by go_num, HK6.out⟩
            case measure => simp [intOf]; omega
          · obtain rfl : k = ent := by omega
            go_wp2_with fail
            go_ret
            exact ⟨rfl, HK.out.but⟩
theorem arrayKeeps_walk (w : World) (value entries : Int) (v : Value) (rows : List (List Value)) (pv : Value) (pl : List Int) (off : Int) (bv : Value) (xs : List Value) (hv : (Lit.int .i64 value).wf = true) (he : (Lit.int .i64 entries).wf = true) (hs : SeesRows w v rows) (hl : rows.length ≤ 140737488351232) (hb : ∀ r ∈ rows, IsBytes r ∧ r.length ≤ 140737488351232) (hp : Sees w pv (pl.map (.int .i64)) ∧ ∀ z ∈ pl, (Lit.int .i64 z).wf = true) (hpl : pl.length ≤ 140737488351232) (hf : (Lit.int .i64 off).wf = true) (hx : Sees w bv xs) (hxb : IsBytes xs) (hxl : xs.length ≤ 140737488351232) :
    Calls Try.prog 4 #[.int .i64 value, .int .i64 entries, v, pv, .int .i64 off, bv] w fun e w' => e = .returned (.bool true) ∧ Below w.heap.size w w' :=
  (arrayKeeps value entries v rows pv pl off bv xs w hv he hs hl hb hp hpl hf hx hxb hxl).mono fun _ _ ⟨he, hb⟩ => ⟨he, hb.below (Nat.le_refl _) (by simp)⟩
end Go.Proofs.Ytkgoblpddjpcnaa.M
