/-
  LruLast: the walk (under way).
-/
import Derived.Test.YtifgfnifadmoaaaLastE
import Derived.Test.YtifgfnifadmoaaaSameR
import Derived.Test.YtifgfnifadmoaaaLightL
import Derived.Test.YtifgfnifadmoaaaLruNew2
import Derived.Test.YtifgfnifadmoaaaPick
import Derived.Test.YtifgfnifadmoaaaDoL
import Derived.BigQuiet
import Derived.OwnWalk
import Derived.Deep.CutBlock
namespace Go.Proofs.Ytifgfnifadmoaaa.M
open Go.RowKit
set_option linter.unusedVariables false
set_option linter.unusedSectionVars false
set_option linter.unusedSimpArgs false
theorem flag_pos {z : Int} (h : (Lit.int .u64 z).wf = true) : 0 ≤ z := by
  simp only [Lit.wf, Bool.and_eq_true, decide_eq_true_eq] at h
  exact Int.le_trans (by decide) h.1
theorem inner_len {ks : List Int} {X Y : List (List Int)} {n : Nat} (hn : n < X.length) (hx : X.length ≤ 40) (hl : X.length = Y.length) : (keysB ks ((X.zip Y).take n)).length ≤ 100 := by
  have h1 := keysB_len ks ((X.zip Y).take n)
  rw [List.length_take] at h1
  omega
theorem keysB_hit' (ks y : List Int) (Z : List (List Int × List Int)) : keysB ks (Z ++ [(ks, y)]) = keysB ks Z ∧ valsB ks (Z ++ [(ks, y)]) = valsB ks Z := keysB_hit rfl
theorem outer_len {ks : List Int} {X Y : List (List Int)} (hx : X.length ≤ 40) : (keysB ks (X.zip Y)).length ≤ 100 := by
  have h1 := keysB_len ks (X.zip Y)
  rw [List.length_zip] at h1
  have := Nat.min_le_left X.length Y.length
  omega
theorem last_short {N : Nat} {rows LA LB : List (List Int)} {A : LSt} (h : A.length ≤ N) (hz : ZA rows A = LA.zip LB) (hl : LA.length = LB.length) : ¬ (N : Int) < LA.length := by
  have h1 := congrArg List.length hz
  rw [za_len, List.length_zip, ← hl, Nat.min_self] at h1
  omega
theorem last_cases {N m : Nat} {q : Int} {Z : List (List Int × List Int)} {ks vs : List Int} {rows : List (List Int)} {A : LSt} (h : StepZ N q Z ks vs (ZA rows A)) (hq : q ≠ 5) (hn : (Z.map (·.1)).Nodup) (hA : A.length ≤ N) (hm : m = (keysB ks Z).length) :
    ((N : Int) < (m : Int) + 1 → ZA rows A = ((keysB ks Z ++ [ks]).drop 1).zip ((valsB ks Z ++ [lastV q ks vs Z]).drop 1)) ∧ (¬ (N : Int) < (m : Int) + 1 → ZA rows A = (keysB ks Z ++ [ks]).zip (valsB ks Z ++ [lastV q ks vs Z])) := by
  have h1 := last_more h hq hn (by rw [za_len]; exact hA)
  have e : (keysB ks Z ++ [ks]).length = m + 1 := by rw [List.length_append, hm]; rfl
  rw [e] at h1
  refine ⟨fun h2 => ?_, fun h2 => ?_⟩
  · rw [if_pos (by omega)] at h1; exact h1
  · rw [if_neg (by omega)] at h1; exact h1
theorem trim_nums {N m a b : Nat} (h1 : 1 ≤ N) (h : (N : Int) < (m : Int) + 1) (ha : m + 1 ≤ a) (hb : m + 1 ≤ b) : ¬ a - 1 = 0 ∧ 1 ≤ a ∧ ¬ b - 1 = 0 ∧ 1 ≤ b := by omega
theorem InL.lens {w W0 W : World} {S : Nat → Prop} {P K V N : Nat} {A : LSt} {rows X Y : List (List Int)} {ov vv : Value} {Z : List (List Int × List Int)} {ks lv r : List Int} {value : Value} {Bx : List (Nat × Obj)} {a b : Option Addr} {n n' c c' : Nat} (h : InL w W0 W S P K V N A rows X Y ov vv (keysB ks Z ++ [ks]) (valsB ks Z ++ [r]) lv value (.slice a n c) (.slice b n' c') Bx) : n = n' := by
  have e1 := h.ra.len
  have e2 := h.rb.len
  rw [List.length_append] at e1 e2
  rw [bvals_len] at e1
  rw [← e1, ← e2]
  rfl
theorem place_nums {p N : Nat} (h : p < N) : (0 : Int) ≤ p ∧ (p : Int) < N ∧ ¬ (p : Int) < 0 ∧ ¬ (N : Int) ≤ p := by omega
theorem made_small {N b : Nat} (h : N ≤ 40) (hb : b = 1) : (b : Int) * (N : Int) ≤ 281474976710656 := by
  subst hb
  omega
theorem made_small2 {N : Nat} (h : N ≤ 40) : (N : Int) ≤ 9223372036854775807 := by omega
theorem RQ.each80 {w W : World} {S : Nat → Prop} {v : Value} {X : List (List Int)} (h : RQ w W S v X) : ∀ r ∈ X, r.length ≤ 1000000000000 := fun r hr => by
  obtain ⟨i, hi⟩ := List.getElem?_of_mem hr
  obtain ⟨_, _, _, _, _, _, _, _, _, _, _, _, h2⟩ := h.row hi
  exact Nat.le_trans h2 (by decide)
theorem num_eqL {k n : Nat} (h : k ≤ n) (h2 : ¬ k < n) : k = n := by omega
theorem RowIn.sees {w : World} {a : Option Addr} {c : Nat} {r : List Int} (h : RowIn w (.slice a r.length c) r) : Sees w (.slice a r.length c) (u8s r) := by
  obtain ⟨a', c', e, h1, _⟩ := h
  rw [e]; exact h1
theorem RowIn.at' {w W : World} {a : Option Addr} {c : Nat} {r : List Int} (h : RowIn w (.slice a r.length c) r) (hb : But [] w W) : Sees W (.slice a r.length c) (u8s r) := h.sees.but hb (by simp)
theorem RowIn.by' {w : World} {x : Value} {r : List Int} (h : RowIn w x r) : ByteL r := by
  obtain ⟨_, _, _, _, h2, _⟩ := h
  exact h2
theorem RowIn.le {w : World} {x : Value} {r : List Int} (h : RowIn w x r) : r.length ≤ 80 := by
  obtain ⟨_, _, _, _, _, h2⟩ := h
  exact h2
set_option maxRecDepth 100000 in
set_option maxHeartbeats 4000000 in
theorem lruLast (k key val ent : Int) (v : Value) (l : List DeedA) (w : World) (hk : (Lit.int .u8 k).wf = true) (hs : SeesDeeds w v l) :
    Calls Try.prog 4 #[.agg #[.int .u8 k, .int .i64 key, .int .i64 val, .int .i64 ent], v] w fun e w' => e = .returned (.bool true) ∧ But [] w w' := by
  obtain ⟨i0, hi, hz0, hz1, hz2⟩ := info_parts (show (Try.prog.info? 25).map (fun i => (i.zero, i.size, i.bytes)) = some (some (.slice none 0 0), 1, 24) by kernel_rfl)
  obtain ⟨oa, oc, rfl, hD⟩ := hs
  have HD := Lib.hid hD
  clear hD
  go_enter Try.func4, Try.ntmps4
  go_wp2_with fail
  refine (awake _).mono ?_
  rintro e w1 ⟨rfl, hb1⟩
  have HS : Hid (w1.heap[w.heap.size]? = some (.cells #[.int .u8 k, .int .i64 key, .int .i64 val, .int .i64 ent] 24)) := Lib.hid (hb1.heap (al_at _ _) (by simp))
  have HB1 : Hid (But [] w w1) := Lib.hid (((But.refl [] w).alloc _).trans hb1 (by simp))
  clear hb1
  have s0 : w1.cell? ⟨w.heap.size, 0, none⟩ = some (.int .u8 k) := cl_of HS.out 0
  have s1 : w1.cell? ⟨w.heap.size, 1, none⟩ = some (.int .i64 key) := cl_of HS.out 1
  have s2 : w1.cell? ⟨w.heap.size, 2, none⟩ = some (.int .i64 val) := cl_of HS.out 2
  have s3 : w1.cell? ⟨w.heap.size, 3, none⟩ = some (.int .i64 ent) := cl_of HS.out 3
  go_wp2_with fail
  refine (light k key val ent _ l _ ⟨oa, oc, rfl, fun i d h => (HD.out i d h).keep HB1.out⟩).mono ?_
  rintro e w2 ⟨b, rfl, hli, hw2⟩
  have HB2 : Hid (But [] w1 w2) := Lib.hid (by rw [hw2]; exact (But.refl [] w1).alloc _)
  have HB02 : Hid (But [] w w2) := Lib.hid (HB1.out.trans HB2.out (by simp))
  clear hw2 s0 s1 s2 s3
  have hs2 := HB2.out.heap HS.out (by simp)
  have s0 : w2.cell? ⟨w.heap.size, 0, none⟩ = some (.int .u8 k) := cl_of hs2 0
  have s1 : w2.cell? ⟨w.heap.size, 1, none⟩ = some (.int .i64 key) := cl_of hs2 1
  have s2 : w2.cell? ⟨w.heap.size, 2, none⟩ = some (.int .i64 val) := cl_of hs2 2
  have s3 : w2.cell? ⟨w.heap.size, 3, none⟩ = some (.int .i64 ent) := cl_of hs2 3
  have HS2 := Lib.hid hs2
  clear hs2
  cases b
  · go_wp2_with fail
    go_ret
    exact ⟨rfl, HB02.out⟩
  have HLI := Lib.hid (hli rfl)
  clear hli
  go_wp2_with fail
  rcases newTwo k key val ent w2 hk with ⟨E, hE1, hE2, hN⟩ | ⟨K, V, N, rfl, rfl, rfl, hKVN, hN⟩
  · refine hN.mono ?_
    rintro e w3 ⟨rfl, hb3⟩
    have HB3 := Lib.hid (HB02.out.trans hb3 (by simp))
    clear hb3 hN
    go_wp2_with fail
    go_ret
    exact ⟨rfl, HB3.out⟩
  · refine hN.mono ?_
    rintro e w3 ⟨P, rfl, hL⟩
    have HKVN := Lib.hid hKVN
    have HLL : Hid (LL w w3 P K V N (.slice none 0 0) (.slice none 0 0) [(w.heap.size, .cells #[.int .u8 k, .int .i64 K, .int .i64 V, .int .i64 N] 24)]) := Lib.hid ⟨⟨_, _, _, [], [], newLO HB02.out hL, RQ.nil _ _ _, RQ.nil _ _ _, rfl, rfl, (fun b hb => by cases hb), (fun p hp => by
      obtain rfl := by simpa using hp
      have h8 := lt_of HS2.out
      exact ⟨fun hx => by have := hx.1; omega, hL.2.heap HS2.out (by simp)⟩)⟩⟩
    obtain ⟨Bs, hBs⟩ : ∃ Bs : List (Nat × Obj), Bs = [(w.heap.size, .cells #[.int .u8 k, .int .i64 K, .int .i64 V, .int .i64 N] 24)] := ⟨_, rfl⟩
    rw [← hBs] at HLL
    have HBS := Lib.hid hBs
    clear hBs
    clear hN hL hKVN s0 s1 s2 s3 hk
    go_wp2_with fail
    go_loopw [7, 8, 9] (fun ov vv i wr => ∃ j : Nat, j ≤ l.length ∧ i = .int .i64 j ∧ LL w wr P K V N ov vv Bs) (fun _ _ i _ => l.length - (intOf i).toNat)
    case atStart => exact ⟨0, Nat.zero_le _, rfl, HLL.out⟩
    case round =>
      rename World => wq
      obtain ⟨j, hj, rfl, hLL⟩ := hrel
      obtain ⟨pa, pn, pc, ra, rc, rfl, rfl⟩ := hLL.forms
      have HLR := Lib.hid hLL
      have HBW : Hid (But [] w wq) := Lib.hid hLL.but
      clear hLL
      by_cases hlt : j < l.length
      · obtain ⟨hj0, hj1, hw1⟩ := light_nums hlt HLI.out.2.1
        obtain ⟨d, hd⟩ : ∃ d, l[j]? = some d := ⟨_, List.getElem?_eq_getElem hlt⟩
        obtain ⟨g, o, rfl, hc0, hok⟩ := HD.out j d hd
        have hc : ∀ (q : Nat) (v : Value), d.cells[q]? = some v → wq.cell? ⟨g, o + j * 6 + q, none⟩ = some v := fun q v hv => cell_but HBW.out (hc0 q v hv) (by simp)
        obtain ⟨a3, c3, e3, -⟩ := sees_shape hok.key
        obtain ⟨a5, c5, e5, -⟩ := sees_shape hok.b
        rw [u8s_len] at e3 e5
        have d0 : wq.cell? ⟨g, o + j * 6, none⟩ = some (.int .i64 d.what) := hc 0 _ rfl
        have d1 := hc 1 _ rfl
        have d2 := hc 2 _ rfl
        rw [e3] at d1
        rw [e5] at d2
        have hks := hok.key
        have hvs := hok.b
        rw [e3] at hks
        rw [e5] at hvs
        have hfew := HLI.out.2.2 j d hd
        have HRV : Hid (RowIn w (.slice a5 d.bs.length c5) d.bs) := Lib.hid ⟨a5, c5, rfl, hvs, hok.bb, hfew.2⟩
        have HRK : Hid (RowIn w (.slice a3 d.ks.length c3) d.ks) := Lib.hid ⟨a3, c3, rfl, hks, hok.keyb, hfew.1⟩
        have HFL : Hid (0 ≤ d.flags) := Lib.hid (flag_pos hok.flags)
        have HWH : Hid ((Lit.int .i64 d.what).wf = true) := Lib.hid hok.what
        have d3 := hc 3 _ rfl
        have d4 := hc 4 _ rfl
        have d5 := hc 5 _ rfl
        have HLT := Lib.hid hlt
        clear hc hc0 hok hd hlt e3 e5 hks hvs hfew
        go_wp2_with fail
        refine (pick d.what 9 _ (by decide) (by decide) (wf_i64 HWH.out).1 (wf_i64 HWH.out).2).mono ?_
        rintro e w4 ⟨rfl, hw4⟩
        have HW4 : Hid (But [] wq w4) := Lib.hid (by rw [← hw4]; exact (But.refl [] wq).alloc _)
        obtain ⟨OB, hOB⟩ : ∃ OB : Obj, OB = .cells #[.int .i64 d.what, .slice a3 d.ks.length c3, .slice a5 d.bs.length c5, .int .u64 d.flags, .int .i64 d.place, .int .i64 d.off] 42 := ⟨_, rfl⟩
        have HBD : Hid (w4.heap[wq.heap.size]? = some OB) := Lib.hid (by rw [hOB, ← hw4]; exact al_at _ _)
        have HL4 := Lib.hid (HLR.out.box HW4.out HBD.out)
        have HOB := Lib.hid hOB
        obtain ⟨q, hq⟩ : ∃ q, q = d.what % 9 := ⟨_, rfl⟩
        rw [← hq]
        have hq9 := q_range hq
        have HQ9 := Lib.hid hq9
        clear hw4 d0 d1 d2 d3 d4 d5 hq hq9 hOB
        by_cases h6 : 6 ≤ q
        · go_wp2_with fail
          go_roundw
          case rel => exact ⟨j + 1, HLT.out, by go_num, HL4.out.unbox⟩
          case measure => first | exact sr_meas HLT.out | exact (by rw [hw1]; exact sr_meas HLT.out)
        · have HE4 : Hid (w4.heap[wq.heap.size]? = some (.cells #[.int .i64 d.what, .slice a3 d.ks.length c3, .slice a5 d.bs.length c5, .int .u64 d.flags, .int .i64 d.place, .int .i64 d.off] 42)) := Lib.hid (by rw [← HOB.out]; exact HBD.out)
          have b1 : w4.cell? ⟨wq.heap.size, 1, none⟩ = some (.slice a3 d.ks.length c3) := cl_of HE4.out 1
          have b2 : w4.cell? ⟨wq.heap.size, 2, none⟩ = some (.slice a5 d.bs.length c5) := cl_of HE4.out 2
          have b3 : w4.cell? ⟨wq.heap.size, 3, none⟩ = some (.int .u64 d.flags) := cl_of HE4.out 3
          go_upto_block 2 with fail
          go_cut [12] (fun f wx => ∃ f0 : Int, f = .int .i64 f0 ∧ MidL w wx P K V N (.slice pa pn pc) (.slice ra pn rc) ((wq.heap.size, OB) :: Bs) q d.ks d.bs f0)
          case first =>
            by_cases hq1 : q ≤ 1
            · go_wp2_with fail
              refine (HL4.out.lookup a3 c3 d.bs (HRK.out.at' HL4.out.but) HRK.out.by' hq1).mono ?_
              rintro e w5 ⟨p, f, rfl, hm⟩
              have HM := Lib.hid hm
              clear hm
              go_wp2_with fail
              go_meet
              exact ⟨f, rfl, HM.out⟩
            · by_cases hq5 : q = 5
              · subst hq5
                go_wp2_with fail
                refine (HL4.out.delete a3 c3 d.bs (HRK.out.at' HL4.out.but) HRK.out.by').mono ?_
                rintro e w5 ⟨f, rfl, hm⟩
                have HM := Lib.hid hm
                clear hm
                go_wp2_with fail
                go_meet
                exact ⟨f, rfl, HM.out⟩
              · have hq5' : (q == 5) = false := by simpa using hq5
                have HQ5 := Lib.hid hq5
                have HQ1 : Hid (1 < q) := Lib.hid (by omega)
                clear hq5
                go_wp2_with fail
                refine (HL4.out.update a3 c3 HRK.out.sees HRK.out.by' a5 c5 HRV.out.sees HRV.out.by' d.flags HFL.out HKVN.out.1 HKVN.out.2.1 HKVN.out.2.2 HQ1.out HQ5.out).mono ?_
                rintro e w5 ⟨f, rfl, hm⟩
                have HM := Lib.hid hm
                clear hm
                go_wp2_with fail
                go_meet
                exact ⟨f, rfl, HM.out⟩
          case rest =>
            rename World => wm
            obtain ⟨f, rfl, hm⟩ := hcut
            have HM := Lib.hid hm
            clear hm b1 b2 b3 HE4 HBD HL4
            by_cases hf : f = 0
            · subst hf
              obtain ⟨⟨S, A, rows, X, Y, hlo, hrx, hry, hXY, hapt, -, hst, hnd, hAN, hXN, hbx⟩⟩ := HM.out
              obtain rfl := hrx.len
              have HST := Lib.hid (hst rfl)
              have HLO := Lib.hid hlo
              have HRX := Lib.hid hrx
              have HRY := Lib.hid hry
              have HXY := Lib.hid hXY
              have HND := Lib.hid hnd
              have HAN := Lib.hid hAN
              have HBX := Lib.hid hbx
              have hx40 : X.length ≤ 40 := by have := HLI.out.1.1; omega
              have HB4 : Hid (wm.heap[wq.heap.size]? = some (.cells #[.int .i64 d.what, .slice a3 d.ks.length c3, .slice a5 d.bs.length c5, .int .u64 d.flags, .int .i64 d.place, .int .i64 d.off] 42)) := Lib.hid (by rw [← HOB.out]; exact (hbx (wq.heap.size, OB) (by simp)).2)
              have b1 : wm.cell? ⟨wq.heap.size, 1, none⟩ = some (.slice a3 d.ks.length c3) := cl_of HB4.out 1
              have b2 : wm.cell? ⟨wq.heap.size, 2, none⟩ = some (.slice a5 d.bs.length c5) := cl_of HB4.out 2
              have HX40 := Lib.hid hx40
              clear hlo hrx hry hXY hapt hst hnd hAN hXN hbx HM hx40
              go_upto_block 3 with fail
              go_cut [13, 14, 15] (fun value a b wx => InL w wm wx S P K V N A rows X Y (.slice pa X.length pc) (.slice ra X.length rc) (keysB d.ks (X.zip Y)) (valsB d.ks (X.zip Y)) (lastV q d.ks d.bs (X.zip Y)) value a b ((wq.heap.size, OB) :: Bs))
              case first =>
                go_wp2_with fail
                go_loopw [13, 14, 15, 16] (fun value a b i wy => ∃ n : Nat, n ≤ X.length ∧ i = .int .i64 n ∧ InL w wm wy S P K V N A rows X Y (.slice pa X.length pc) (.slice ra X.length rc) (keysB d.ks ((X.zip Y).take n)) (valsB d.ks ((X.zip Y).take n)) (lastV q d.ks d.bs ((X.zip Y).take n)) value a b ((wq.heap.size, OB) :: Bs)) (fun _ _ _ i _ => X.length - (intOf i).toNat)
                case atStart => exact ⟨0, Nat.zero_le _, rfl, InL.start HLO.out HRX.out HRY.out HRV.out HBX.out⟩
                case round =>
                  obtain ⟨n, hn, rfl, hI⟩ := hrel
                  obtain ⟨va, vc, rfl⟩ := hI.val.len
                  obtain ⟨aa, ac, rfl⟩ := hI.ra.form
                  obtain ⟨ba, bc, rfl⟩ := hI.rb.form
                  have HI := Lib.hid hI
                  clear hI b1 b2
                  by_cases hlt : n < X.length
                  · obtain ⟨x, hx⟩ : ∃ x, X[n]? = some x := ⟨_, List.getElem?_eq_getElem hlt⟩
                    obtain ⟨y, hy⟩ : ∃ y, Y[n]? = some y := ⟨_, List.getElem?_eq_getElem (by have := HXY.out; omega)⟩
                    obtain ⟨ad, xa, xc, rfl, g1, rx⟩ := HI.out.rov.rowAt hx
                    obtain ⟨bd, ya, yc, rfl, g2, ry⟩ := HI.out.rvv.rowAt hy
                    have HX := Lib.hid (take_at (zip_at hx hy))
                    have HRXn := Lib.hid rx
                    have HRYn := Lib.hid ry
                    have HY := Lib.hid hy
                    have HXn := Lib.hid hx
                    have HB5 : Hid (wr.heap[wq.heap.size]? = some (.cells #[.int .i64 d.what, .slice a3 d.ks.length c3, .slice a5 d.bs.length c5, .int .u64 d.flags, .int .i64 d.place, .int .i64 d.off] 42)) := Lib.hid (by rw [← HOB.out]; exact (HI.out.boxes (wq.heap.size, OB) (by simp)).2)
                    have b1 : wr.cell? ⟨wq.heap.size, 1, none⟩ = some (.slice a3 d.ks.length c3) := cl_of HB5.out 1
                    obtain ⟨hn0, hn1, hw1n⟩ := light_nums hlt (Nat.le_trans HX40.out (by decide))
                    have HLTN := Lib.hid hlt
                    have HSM := Lib.hid (sameL xa a3 xc c3 x d.ks wr.drew (rx.at' HI.out.lo.but.drew) (HRK.out.at' HI.out.lo.but.drew) (Nat.le_trans rx.le (by decide)))
                    clear hx hy rx ry hlt
                    by_cases hxk : x = d.ks
                    · subst hxk
                      rw [decide_eq_true rfl] at HSM
                      go_wp2_with fail
                      refine wp_region_tail9 6 (by kernel_rfl) (by kernel_rfl) ?_
                      simp only [List.take_succ_cons, List.take_zero, List.drop_succ_cons, List.drop_zero]
                      repeat still_step
                      refine wpStill_nil ?_
                      go_wp2_with fail
                      refine HSM.out.mono ?_
                      rintro e w6 ⟨rfl, hb6⟩
                      have HI6 := Lib.hid (HI.out.keep ((But.refl [] wr).drew.trans hb6 (by simp)))
                      clear hb6 g1 g2 b1 HSM
                      by_cases hq1 : q ≤ 1
                      · obtain ⟨bd', ya', yc', e7, g7, ry7⟩ := HI6.out.rvv.rowAt HY.out
                        cases e7
                        have RY7 := Lib.hid ry7
                        clear ry7
                        go_wp2_with fail
                        go_roundw
                        case rel => exact ⟨n + 1, HLTN.out, by go_num, by rw [HX.out, (keysB_hit' _ _ _).1, (keysB_hit' _ _ _).2, lastV_snoc, if_pos ⟨rfl, hq1⟩]; exact HI6.out.setv RY7.out⟩
                        case measure => first | exact sr_meas HLTN.out | exact (by rw [hw1n]; exact sr_meas HLTN.out)
                      · go_wp2_with fail
                        go_roundw
                        case rel => exact ⟨n + 1, HLTN.out, by go_num, by rw [HX.out, (keysB_hit' _ _ _).1, (keysB_hit' _ _ _).2, lastV_snoc, if_neg (fun h => absurd h.2 (Int.not_le.2 hq1))]; exact HI6.out⟩
                        case measure => first | exact sr_meas HLTN.out | exact (by rw [hw1n]; exact sr_meas HLTN.out)
                    · rw [decide_eq_false hxk] at HSM
                      have HXK := Lib.hid hxk
                      clear hxk
                      go_wp2_with fail
                      refine wp_region_tail9 6 (by kernel_rfl) (by kernel_rfl) ?_
                      simp only [List.take_succ_cons, List.take_zero, List.drop_succ_cons, List.drop_zero]
                      repeat still_step
                      refine wpStill_nil ?_
                      go_wp2_with fail
                      refine HSM.out.mono ?_
                      rintro e w6 ⟨rfl, hb6⟩
                      have HI6 := Lib.hid (HI.out.keep ((But.refl [] wr).drew.trans hb6 (by simp)))
                      clear hb6 g1 g2 b1 HSM
                      obtain ⟨ad', xa', xc', e7, g7, rx7⟩ := HI6.out.rov.rowAt HXn.out
                      cases e7
                      have RX7 := Lib.hid rx7
                      obtain ⟨valsA, hqa, hla, _⟩ := id HI6.out.ra
                      have HQA : Hid (OwnQ (w6.alloc (.cells #[.slice xa' x.length xc'] 25)) 25 _ valsA) := Lib.hid (hqa.but ((But.refl [] w6).alloc _) (by simp))
                      have HLA : Hid (valsA.length ≤ 100) := Lib.hid (by rw [hla]; exact inner_len HLTN.out HX40.out HXY.out)
                      have KEYA := Lib.hid (fun (v' : Value) (w9 : World) (hap : Appended (w6.alloc (.cells #[.slice xa' x.length xc'] 25)) w9 25 _ v' valsA [.slice xa' x.length xc']) => HI6.out.app RX7.out ((But.refl [] w6).alloc _) hqa hap)
                      have HSRC := Lib.hid (src_one hz1 w6 xa' x.length xc')
                      clear rx7 hqa hla
                      go_upto_region 31 with (at_builtin; refine wpList_append_row (by rfl) _ _ 26 (by rfl) 25 i0 (.slice none 0 0) 24 Try.underlying26 hi hz0 hz1 hz2 rfl _ valsA (by rfl) HQA.out [Value.slice xa' x.length xc'] _ (by rfl) HSRC.out (app_fits HLA.out).1 (app_fits HLA.out).2 ?_; intro v' wn hap; obtain ⟨⟨a9, c9, rfl⟩, hn⟩ := KEYA.out v' wn hap; have H9 := Lib.hid hn; clear hap hn)
                      clear g7
                      obtain ⟨bd', ya', yc', e8, g8, ry8⟩ := H9.out.rvv.rowAt HY.out
                      cases e8
                      have RY8 := Lib.hid ry8
                      obtain ⟨valsC, hqb, hlb, _⟩ := id H9.out.rb
                      have HQB : Hid (OwnQ (wn.alloc (.cells #[.slice ya' y.length yc'] 25)) 25 _ valsC) := Lib.hid (hqb.but ((But.refl [] wn).alloc _) (by simp))
                      have HLB : Hid (valsC.length ≤ 100) := Lib.hid (by rw [hlb, ← bvals_len]; exact inner_len HLTN.out HX40.out HXY.out)
                      have KEYB := Lib.hid (fun (v' : Value) (w9 : World) (hap : Appended (wn.alloc (.cells #[.slice ya' y.length yc'] 25)) w9 25 _ v' valsC [.slice ya' y.length yc']) => H9.out.app2 RY8.out ((But.refl [] wn).alloc _) hqb hap)
                      have HSRB := Lib.hid (src_one hz1 wn ya' y.length yc')
                      clear ry8 hqb hlb
                      go_wp2_with (at_builtin; refine wpList_append_row (by rfl) _ _ 26 (by rfl) 25 i0 (.slice none 0 0) 24 Try.underlying26 hi hz0 hz1 hz2 rfl _ valsC (by rfl) HQB.out [Value.slice ya' y.length yc'] _ (by rfl) HSRB.out (app_fits HLB.out).1 (app_fits HLB.out).2 ?_; intro v' wn hap; obtain ⟨⟨a10, c10, rfl⟩, hn⟩ := KEYB.out v' wn hap; have H10 := Lib.hid hn; clear hap hn)
                      go_roundw
                      case rel => exact ⟨n + 1, HLTN.out, by go_num, by rw [HX.out, (keysB_miss HXK.out).1, (keysB_miss HXK.out).2, lastV_snoc, if_neg (fun h => HXK.out h.1)]; exact H10.out⟩
                      case measure => first | exact sr_meas HLTN.out | exact (by rw [hw1n]; exact sr_meas HLTN.out)
                  · obtain rfl : n = X.length := num_eqL hn hlt
                    have HTK : Hid ((X.zip Y).take X.length = X.zip Y) := Lib.hid (List.take_of_length_le (by rw [List.length_zip]; exact Nat.min_le_left _ _))
                    clear hlt hn
                    go_wp2_with fail
                    go_meet
                    have HH := HI.out
                    rw [HTK.out] at HH ⊢
                    exact HH
              case rest =>
                rename World => wb
                obtain ⟨va, vc, rfl⟩ := hcut.val.len
                obtain ⟨aa, ac, rfl⟩ := hcut.ra.form
                obtain ⟨ba, bc, rfl⟩ := hcut.rb.form
                have HI := Lib.hid hcut
                clear hcut b1 b2
                have HMB : Hid ((w.heap.size, Obj.cells #[.int .u8 k, .int .i64 K, .int .i64 V, .int .i64 N] 24) ∈ (wq.heap.size, OB) :: Bs) := Lib.hid (by rw [HBS.out]; exact List.mem_cons_of_mem _ (List.mem_singleton.2 rfl))
                have s3 : wb.cell? ⟨w.heap.size, 3, none⟩ = some (.int .i64 N) := cl_of (HI.out.boxes _ HMB.out).2 3
                have HB6 : Hid (wb.heap[wq.heap.size]? = some (.cells #[.int .i64 d.what, .slice a3 d.ks.length c3, .slice a5 d.bs.length c5, .int .u64 d.flags, .int .i64 d.place, .int .i64 d.off] 42)) := Lib.hid (by rw [← HOB.out]; exact (HI.out.boxes (wq.heap.size, OB) (by simp)).2)
                have b1 : wb.cell? ⟨wq.heap.size, 1, none⟩ = some (.slice a3 d.ks.length c3) := cl_of HB6.out 1
                by_cases hq5 : q = 5
                · subst hq5
                  have hle := last_short HAN.out (last_del5 HST.out) (bvals_len _ _)
                  clear b1
                  go_wp2_with fail
                  go_roundw
                  case rel => exact ⟨j + 1, HLT.out, by go_num, (HI.out.head (bvals_len _ _) (last_del5 HST.out)).unbox⟩
                  case measure => first | exact sr_meas HLT.out | exact (by rw [hw1]; exact sr_meas HLT.out)
                · have hq5' : (q != 5) = true := by simpa using hq5
                  have HQ5 := Lib.hid hq5
                  clear hq5
                  obtain ⟨valsA, hqa, hla, _⟩ := id HI.out.ra
                  have HQA : Hid (OwnQ (wb.alloc (.cells #[.slice a3 d.ks.length c3] 25)) 25 _ valsA) := Lib.hid (hqa.but ((But.refl [] wb).alloc _) (by simp))
                  have HLA : Hid (valsA.length ≤ 100) := Lib.hid (by rw [hla]; exact outer_len HX40.out)
                  have HLQ := Lib.hid hla
                  have KEYA := Lib.hid (fun (v' : Value) (w9 : World) (hap : Appended (wb.alloc (.cells #[.slice a3 d.ks.length c3] 25)) w9 25 _ v' valsA [.slice a3 d.ks.length c3]) => HI.out.app HRK.out ((But.refl [] wb).alloc _) hqa hap)
                  have HSRC := Lib.hid (src_one hz1 wb a3 d.ks.length c3)
                  clear hqa hla s3
                  go_upto_region 34 with (at_builtin; refine wpList_append_row (by rfl) _ _ 26 (by rfl) 25 i0 (.slice none 0 0) 24 Try.underlying26 hi hz0 hz1 hz2 rfl _ valsA (by rfl) HQA.out [Value.slice a3 d.ks.length c3] _ (by rfl) HSRC.out (app_fits HLA.out).1 (app_fits HLA.out).2 ?_; intro v' wn hap; obtain ⟨⟨a9, c9, rfl⟩, hn⟩ := KEYA.out v' wn hap; have H9 := Lib.hid hn; clear hap hn)
                  clear b1
                  obtain ⟨valsC, hqb, hlb, _⟩ := id H9.out.rb
                  obtain ⟨lv, hlv⟩ : ∃ lv, lv = lastV q d.ks d.bs (X.zip Y) := ⟨_, rfl⟩
                  rw [← hlv] at H9
                  rw [← hlv]
                  have HLV := Lib.hid hlv
                  have HQB : Hid (OwnQ (wn.alloc (.cells #[.slice va lv.length vc] 25)) 25 _ valsC) := Lib.hid (hqb.but ((But.refl [] wn).alloc _) (by simp))
                  have HLB : Hid (valsC.length ≤ 100) := Lib.hid (by rw [hlb, ← bvals_len]; exact outer_len HX40.out)
                  have KEYB := Lib.hid (fun (v' : Value) (w9 : World) (hap : Appended (wn.alloc (.cells #[.slice va lv.length vc] 25)) w9 25 _ v' valsC [.slice va lv.length vc]) => H9.out.app2 H9.out.val ((But.refl [] wn).alloc _) hqb hap)
                  have HSRB := Lib.hid (src_one hz1 wn va lv.length vc)
                  clear hqb hlb hlv
                  go_upto_region 35 with (at_builtin; refine wpList_append_row (by rfl) _ _ 26 (by rfl) 25 i0 (.slice none 0 0) 24 Try.underlying26 hi hz0 hz1 hz2 rfl _ valsC (by rfl) HQB.out [Value.slice va lv.length vc] _ (by rfl) HSRB.out (app_fits HLB.out).1 (app_fits HLB.out).2 ?_; intro v' wo hap; obtain ⟨⟨a10, c10, rfl⟩, hn⟩ := KEYB.out v' wo hap; have H10 := Lib.hid hn; clear hap hn)
                  have s3 : wo.cell? ⟨w.heap.size, 3, none⟩ = some (.int .i64 N) := cl_of (H10.out.boxes _ HMB.out).2 3
                  obtain ⟨hzt, hzf⟩ := last_cases HST.out HQ5.out HND.out HAN.out HLQ.out
                  rw [← HLV.out] at hzt hzf
                  by_cases htr : (N : Int) < (valsA.length : Int) + 1
                  · have HZT := Lib.hid (hzt htr)
                    obtain ⟨hca, haa⟩ := H10.out.ra.cap
                    obtain ⟨hcb, hbb⟩ := H10.out.rb.cap
                    obtain ⟨ga, goa, rfl⟩ := haa (by omega)
                    obtain ⟨gb, gob, rfl⟩ := hbb (by omega)
                    obtain ⟨k1, k2, k3, k4⟩ := trim_nums HKVN.out.2.2 htr hca (Nat.le_trans (Nat.le_of_eq H10.out.lens) hcb)
                    clear hzt hzf hca hcb haa hbb
                    go_wp2_with fail
                    go_roundw
                    case rel => exact ⟨j + 1, HLT.out, by go_num, (H10.out.headTail (by rw [List.length_append, List.length_append, bvals_len]; rfl) HZT.out).unbox⟩
                    case measure => first | exact sr_meas HLT.out | exact (by rw [hw1]; exact sr_meas HLT.out)
                  · have HZF := Lib.hid (hzf htr)
                    clear hzt hzf
                    go_wp2_with fail
                    go_roundw
                    case rel => exact ⟨j + 1, HLT.out, by go_num, (H10.out.head (by rw [List.length_append, List.length_append, bvals_len]; rfl) HZF.out).unbox⟩
                    case measure => first | exact sr_meas HLT.out | exact (by rw [hw1]; exact sr_meas HLT.out)
            · have hf0 : (f != 0) = true := by simpa using hf
              have HF := Lib.hid hf
              clear hf
              go_wp2_with fail
              go_roundw
              case rel => exact ⟨j + 1, HLT.out, by go_num, (HM.out.head HF.out).unbox⟩
              case measure => first | exact sr_meas HLT.out | exact (by rw [hw1]; exact sr_meas HLT.out)
      · obtain rfl : j = l.length := num_eqL hj hlt
        obtain ⟨⟨S, A, rows, X, Y, hlo, hrx, hry, hXY, hz, hapt, hbx⟩⟩ := HLR.out
        obtain rfl := hrx.len
        have HKX := Lib.hid (za_keys hz hXY)
        have HVY := Lib.hid (za_vals hz hXY)
        have HX40 : Hid (X.length ≤ 40) := Lib.hid (Nat.le_trans (za_fits hz hXY hlo.ls.fits) (by have := HLI.out.1.1; omega))
        have HPL := Lib.hid hlo.ls.places
        have HKL := Lib.hid hlo.ls.klen
        have HN40 : Hid (N ≤ 40) := Lib.hid (by have := HLI.out.1.1; omega)
        have HLO := Lib.hid hlo
        have HRX := Lib.hid hrx
        have HRY := Lib.hid hry
        have HBX := Lib.hid hbx
        have HXL := Lib.hid (RQ.each80 hrx)
        have HMB : Hid ((w.heap.size, Obj.cells #[.int .u8 k, .int .i64 K, .int .i64 V, .int .i64 N] 24) ∈ Bs) := Lib.hid (by rw [HBS.out]; exact List.mem_singleton.2 rfl)
        clear hlo hrx hry hXY hz hapt hbx hlt hj HLR
        go_wp2_with fail
        refine (HLO.out.keysX HKX.out (Nat.le_trans HN40.out (by decide))).mono ?_
        rintro e w5 ⟨ka, kc, rfl, hsr, hb5⟩
        have HSR := Lib.hid hsr
        have HB5 := Lib.hid hb5
        clear hsr hb5
        go_wp2_with fail
        refine (same_rows_yes ka pa kc pc X w5 HSR.out ((HRX.out.seesRows HLO.out.but).new HB5.out) HXL.out (Nat.le_trans HX40.out (by decide))).mono ?_
        rintro e w6 ⟨rfl, hb6⟩
        have HB6 := Lib.hid (HB5.out.trans hb6 (by simp))
        clear hb6
        have s3 : w6.cell? ⟨w.heap.size, 3, none⟩ = some (.int .i64 N) := cl_of (HB6.out.heap (HBX.out _ HMB.out).2 (by simp)) 3
        obtain ⟨j0, ki, kz0, kz1, kz2⟩ := info_parts (show (Try.prog.info? 4).map (fun i => (i.zero, i.size, i.bytes)) = some (some (.bool false), 1, 1) by kernel_rfl)
        have hmk : ∀ w, (Instr.makeSlice 46 (.int .i64 (N : Int)) (.int .i64 (N : Int))).run Try.prog w = .ok (.slice (some ⟨w.heap.size, 0, none⟩) N N) (w.alloc (.cells (madeCells #[.bool false] N) 4)) := fun w => by
          have h := run_make (P := Try.prog) w 46 4 j0 (.bool false) Try.underlying46 ki kz0 .i64 .i64 (N : Int) (N : Int) (Int.natCast_nonneg _) (Int.le_refl _) (made_small HN40.out kz2) (made_small2 HN40.out)
          rw [h, kz1]
          simp only [Int.toNat_natCast, Nat.mul_one]
          rfl
        obtain ⟨CU, hCU⟩ : ∃ C, C = madeCells #[.bool false] N := ⟨_, rfl⟩
        have HES : Hid (EndL w (w6.alloc (.cells CU 4)) w6.heap.size P K V N A rows X Y (.slice pa X.length pc) (.slice ra X.length rc) Bs 0) := Lib.hid (endL_start (HLO.out.keep HB6.out (by simp)) (HRX.out.keep HB6.out (by simp)) (HRY.out.keep HB6.out (by simp)) (HBX.out.keep HB6.out (by simp)) CU hCU)
        rw [← hCU] at hmk
        clear hCU ki kz0 kz1 kz2
        go_wp2_with fail
        go_loopw [18] (fun i wr => ∃ n : Nat, n ≤ X.length ∧ i = .int .i64 n ∧ EndL w wr w6.heap.size P K V N A rows X Y (.slice pa X.length pc) (.slice ra X.length rc) Bs n) (fun i _ => X.length - (intOf i).toNat)
        case atStart => exact ⟨0, Nat.zero_le _, rfl, HES.out⟩
        case round =>
          obtain ⟨n, hn, rfl, hE⟩ := hrel
          have HE := Lib.hid hE
          clear hE hmk s3
          by_cases hlt : n < X.length
          · obtain ⟨x, hx⟩ : ∃ x, X[n]? = some x := ⟨_, List.getElem?_eq_getElem hlt⟩
            obtain ⟨p, hap⟩ := key_at HKX.out hx
            obtain ⟨ad, xa, xc, e7, g1, rx⟩ := HE.out.rx rfl hx
            subst e7
            have hpN : p < N := HPL.out.2.1 _ (List.mem_of_getElem? hap)
            have HAP := Lib.hid hap
            have HRXn := Lib.hid rx
            obtain ⟨hn0, hn1, hw1n⟩ := light_nums hlt (Nat.le_trans HX40.out (by decide))
            have HPN := Lib.hid hpN
            have HLTN := Lib.hid hlt
            clear hx hap rx hlt hn hpN
            go_wp2_with fail
            refine (HE.out.look xa xc HAP.out (HRXn.out.at' HE.out.but) HRXn.out.by' (HKL.out _ (List.mem_of_getElem? HAP.out))).mono ?_
            rintro e w7 ⟨rfl, hb7, hbx7, hcont⟩
            obtain ⟨k1, k2, hE7⟩ := hcont HPN.out
            rw [used_not HAP.out HPL.out.1] at k1
            have s3 : w7.cell? ⟨w.heap.size, 3, none⟩ = some (.int .i64 N) := cl_of (hbx7 _ HMB.out) 3
            obtain ⟨hp0, hp1, hp2, hp3⟩ := place_nums HPN.out
            have HE7 := Lib.hid hE7
            clear hb7 hbx7 hcont hE7 g1
            go_wp2_with fail
            refine (HE7.out.value HPN.out).mono ?_
            rintro e w8 ⟨va, vc, rfl, hsv, hE8, hb8⟩
            obtain ⟨bd, ya, yc, e9, g2, ry⟩ := hE8.ry rfl (val_at HVY.out HAP.out)
            subst e9
            have hsm := sameL va ya vc yc (rowOf rows p) (rowOf rows p) w8 hsv (ry.at' hE8.but) (Nat.le_trans ry.le (by decide))
            rw [decide_eq_true rfl] at hsm
            have HSM := Lib.hid hsm
            have HE8 := Lib.hid hE8
            clear hsm hE8 hb8 hsv ry k1 k2 s3
            go_wp2_with fail
            refine HSM.out.mono ?_
            rintro e w9 ⟨rfl, hb9⟩
            have HE9 := Lib.hid (HE8.out.keep hb9)
            clear hb9 g2 HSM
            go_wp2_with fail
            go_roundw
            case rel => exact ⟨n + 1, HLTN.out, by go_num, HE9.out⟩
            case measure => first | exact sr_meas HLTN.out | exact (by rw [hw1n]; exact sr_meas HLTN.out)
          · obtain rfl : n = X.length := num_eqL hn hlt
            clear hlt hn
            go_wp2_with fail
            go_ret
            exact ⟨rfl, HE.out.but⟩
theorem lruLast_walk (w : World) (s : MSpec) (v : Value) (l : List DeedA) (hs : (Lit.int .u8 s.k).wf = true ∧ (Lit.int .i64 s.key).wf = true ∧ (Lit.int .i64 s.val).wf = true ∧ (Lit.int .i64 s.ent).wf = true) (hd : SeesDeeds w v l) (hl : l.length ≤ 3518437208780) :
    Calls Try.prog 4 #[s.v, v] w fun e w' => e = .returned (.bool true) ∧ Below w.heap.size w w' :=
  (lruLast s.k s.key s.val s.ent v l w hs.1 hd).mono fun _ _ ⟨he, hb⟩ => ⟨he, hb.below (Nat.le_refl _) (by simp)⟩
end Go.Proofs.Ytifgfnifadmoaaa.M
