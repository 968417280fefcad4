/-
  LruPlaces: the walk.
-/
import Derived.Test.YtifgfnifadmoaaaPlacesP
import Derived.Test.YtifgfnifadmoaaaLightL
import Derived.Test.YtifgfnifadmoaaaOpen8
import Derived.Test.YtifgfnifadmoaaaLruNew2
import Derived.Test.YtifgfnifadmoaaaKeys0
import Derived.BigQuiet
namespace Go.Proofs.Ytifgfnifadmoaaa.M
open Go.RowKit
set_option linter.unusedVariables false
set_option linter.unusedSectionVars false
set_option linter.unusedSimpArgs false
theorem offU {w0 w wx wy : World} {a : Option Addr} {c : Nat} {ks : List Int} (h : Sees w0 (.slice a ks.length c) (u8s ks)) (h1 : w0.heap.size ≤ w.heap.size) (h2 : w.heap.size ≤ wy.heap.size) : Off w wx wy a ks.length c := by
  have h' : Sees w0 (.slice a (u8s ks).length c) (u8s ks) := by rw [u8s_len]; exact h
  have := Off.old (wx := wx) h' h1 h2
  rwa [u8s_len] at this
theorem u8s_map (xs : List Int) : u8s xs = xs.map (.int .u8) := rfl
/-- Rows that came in: one of them. -/
theorem row_at {w : World} {oa : Option Addr} {n oc : Nat} {rows : List (List Int)} (h : SeesRows w (.slice oa n oc) (rows.map u8s)) : n = rows.length ∧ ∀ (i : Nat) (r : List Int), rows[i]? = some r → ∃ ad a c, oa = some ad ∧ w.cell? (ad.add i) = some (.slice a r.length c) ∧ Sees w (.slice a r.length c) (u8s r) := by
  obtain ⟨vals, h1, h2, h3⟩ := h
  obtain ⟨a', c', e, hx⟩ := sees_shape h1
  simp only [Value.slice.injEq] at e
  obtain ⟨rfl, rfl, rfl⟩ := e
  rw [List.length_map] at h2
  refine ⟨h2, fun i r hr => ?_⟩
  have hi : i < vals.length := by rw [h2]; exact (List.getElem?_eq_some_iff.1 hr).1
  have hv := List.getElem?_eq_getElem hi
  obtain ⟨ad, rfl, hc⟩ := hx i _ hv
  have hs := h3 i _ _ hv (by rw [List.getElem?_map, hr]; rfl)
  obtain ⟨a, c, e2, _⟩ := sees_shape hs
  rw [u8s_len] at e2
  rw [e2] at hc hs
  exact ⟨ad, a, c, rfl, hc, hs⟩
theorem pl_meas {j n : Nat} (h : j < n) : n - (intOf (.int .i64 ((j : Int) + 1))).toNat < n - (intOf (.int .i64 (j : Int))).toNat := by
  simp only [intOf]
  omega
theorem upd_keep {K V N j n : Nat} {A : LSt} {rows : List (List Int)} {ks ks' vs : List Int} {p : Nat} (h : placeK A ks = some p) (hne : ¬ ks' = ks) (hl : A.length ≤ j + 1) (hj : j < n) (hn : n < N) : placeK (updA K V N A rows ks' vs 0).2.1 ks = some p ∧ (updA K V N A rows ks' vs 0).2.1.length ≤ j + 1 + 1 := by
  obtain ⟨h1, h2⟩ := upd_other (K := K) (V := V) (rows := rows) (vs := vs) h hne (show A.length < N by omega)
  exact ⟨h1, by omega⟩
def PL (w wr : World) (P K V N : Nat) (ks : List Int) (p j : Nat) : Prop := ∃ A rows, LB w wr P K V N A rows ∧ placeK A ks = some p ∧ A.length ≤ j + 1
theorem pl_nums {j n : Nat} (h : j < n) (hn : n ≤ 60) : (0 : Int) ≤ j ∧ (j : Int) < n ∧ wrap64 ((j : Int) + 1) = (j : Int) + 1 := by
  refine ⟨by omega, by omega, ?_⟩
  rw [wrap64]; omega
set_option maxRecDepth 100000 in
set_option maxHeartbeats 4000000 in
theorem lruPlaces (k key val ent : Int) (ka va oa : Option Addr) (kc vc on oc : Nat) (ks vs : List Int) (rows : List (List Int)) (w : World) (hk : (Lit.int .u8 k).wf = true)
    (hks : Sees w (.slice ka ks.length kc) (u8s ks)) (hkb : ByteL ks) (hvs : Sees w (.slice va vs.length vc) (u8s vs)) (hvb : ByteL vs) (hr : SeesRows w (.slice oa on oc) (rows.map u8s)) (hrb : ∀ r ∈ rows, ByteL r ∧ r.length ≤ 140737488351232) :
    Calls Try.prog 3 #[.agg #[.int .u8 k, .int .i64 key, .int .i64 val, .int .i64 ent], .slice ka ks.length kc, .slice va vs.length vc, .slice oa on oc] w fun e w' => e = .returned (.bool true) ∧ But [] w w' := by
  obtain ⟨hon, hrow⟩ := row_at hr
  subst hon
  have HKS := Lib.hid hks
  have HKB := Lib.hid hkb
  have HVS := Lib.hid hvs
  have HVB := Lib.hid hvb
  have HROW := Lib.hid hrow
  have HRB := Lib.hid hrb
  clear hks hkb hvs hvb hr hrow hrb
  go_enter Try.func3, Try.ntmps3
  go_wp2_with fail
  refine (awake _).mono ?_
  rintro e w1 ⟨rfl, hb1⟩
  have HS : Hid (w1.heap[w.heap.size]? = some (.cells #[.int .u8 k, .int .i64 key, .int .i64 val, .int .i64 ent] 24)) := Lib.hid (hb1.heap (al_at _ _) (by simp))
  have HB1 : Hid (But [] w w1) := Lib.hid (((But.refl [] w).alloc _).trans hb1 (by simp))
  clear hb1
  have s0 : w1.cell? ⟨w.heap.size, 0, none⟩ = some (.int .u8 k) := cl_of HS.out 0
  have s1 : w1.cell? ⟨w.heap.size, 1, none⟩ = some (.int .i64 key) := cl_of HS.out 1
  have s2 : w1.cell? ⟨w.heap.size, 2, none⟩ = some (.int .i64 val) := cl_of HS.out 2
  have s3 : w1.cell? ⟨w.heap.size, 3, none⟩ = some (.int .i64 ent) := cl_of HS.out 3
  go_wp2_with fail
  refine (light k key val ent (.slice none 0 0) [] _ ⟨none, 0, rfl, fun i d h => by cases h⟩).mono ?_
  rintro e w2 ⟨b, rfl, hli, hw2⟩
  have HB2 : Hid (But [] w1 w2) := Lib.hid (by rw [hw2]; exact (But.refl [] w1).alloc _)
  have HB02 : Hid (But [] w w2) := Lib.hid (HB1.out.trans HB2.out (by simp))
  clear hw2 s0 s1 s2 s3
  have hs2 := HB2.out.heap HS.out (by simp)
  have s0 : w2.cell? ⟨w.heap.size, 0, none⟩ = some (.int .u8 k) := cl_of hs2 0
  have s1 : w2.cell? ⟨w.heap.size, 1, none⟩ = some (.int .i64 key) := cl_of hs2 1
  have s2 : w2.cell? ⟨w.heap.size, 2, none⟩ = some (.int .i64 val) := cl_of hs2 2
  have s3 : w2.cell? ⟨w.heap.size, 3, none⟩ = some (.int .i64 ent) := cl_of hs2 3
  clear hs2
  cases b
  · go_wp2_with fail
    go_ret
    exact ⟨rfl, HB02.out⟩
  have HLI := Lib.hid (hli rfl)
  clear hli
  by_cases q1 : (80 : Int) < ks.length
  · have r1 : decide ((80 : Int) < ks.length) = true := decide_eq_true q1
    go_wp2_with fail
    go_ret
    exact ⟨rfl, HB02.out⟩
  have r1 : decide ((80 : Int) < ks.length) = false := decide_eq_false q1
  by_cases q2 : (80 : Int) < vs.length
  · have r2 : decide ((80 : Int) < vs.length) = true := decide_eq_true q2
    go_wp2_with fail
    go_ret
    exact ⟨rfl, HB02.out⟩
  have r2 : decide ((80 : Int) < vs.length) = false := decide_eq_false q2
  by_cases q3 : (60 : Int) < rows.length
  · have r3 : decide ((60 : Int) < rows.length) = true := decide_eq_true q3
    go_wp2_with fail
    go_ret
    exact ⟨rfl, HB02.out⟩
  have r3 : decide ((60 : Int) < rows.length) = false := decide_eq_false q3
  by_cases q4 : ent ≤ (rows.length : Int)
  · have r4 : decide (ent ≤ (rows.length : Int)) = true := decide_eq_true q4
    go_wp2_with fail
    go_ret
    exact ⟨rfl, HB02.out⟩
  have r4 : decide (ent ≤ (rows.length : Int)) = false := decide_eq_false q4
  have HR60 : Hid (rows.length ≤ 60) := Lib.hid (by omega)
  have HK80 : Hid (ks.length ≤ 80) := Lib.hid (by omega)
  have HENT : Hid ((rows.length : Int) < ent) := Lib.hid (by omega)
  go_wp2_with fail
  clear q1 q2 q3 q4 r1 r2 r3 r4
  rcases newTwo k key val ent w2 hk with ⟨E, hE1, hE2, hN⟩ | ⟨K, V, N, rfl, rfl, rfl, hKVN, hN⟩
  · refine hN.mono ?_
    rintro e w3 ⟨rfl, hb3⟩
    have HB3 := Lib.hid (HB02.out.trans hb3 (by simp))
    clear hb3 hN
    go_wp2_with fail
    go_ret
    exact ⟨rfl, HB3.out⟩
  · refine hN.mono ?_
    rintro e w3 ⟨P, rfl, hL⟩
    have HL := Lib.hid hL
    have HKVN := Lib.hid hKVN
    have HLN : Hid (rows.length < N) := Lib.hid (by have := HENT.out; omega)
    have HUP := Lib.hid (hL.update (But.refl [] w3) ka kc (HKS.out.but (HB02.out.trans hL.2 (by simp)) (by simp)) HKB.out va vc (HVS.out.but (HB02.out.trans hL.2 (by simp)) (by simp)) HVB.out 1 (by decide) (offU HKS.out HB02.out.size hL.2.size) (offU HVS.out HB02.out.size hL.2.size) hKVN.1 hKVN.2.1)
    clear hN hL hKVN s0 s1 s2 s3 hk
    go_wp2_with fail
    refine HUP.out.mono ?_
    rintro e w4 ⟨rfl, hL, -⟩
    by_cases hgood : ks.length = K ∧ vs.length = V
    · obtain ⟨p, rows1, e1⟩ := (upd_first (K := K) (V := V) (rows := List.replicate N (List.replicate V 0)) (ks := ks) (vs := vs) HKVN.out.2.2).2 hgood
      rw [e1] at hL ⊢
      dsimp only at hL ⊢
      have HG := Lib.hid hgood
      obtain ⟨A5, e5, hp5, hl5⟩ := look_place (A := [(ks, p)]) (p := p) (show placeK [(ks, p)] ks = some p by simp [placeK]) HG.out.1 hL.1.nodup
      have HLK := Lib.hid (hL.lookup (But.refl [] w4) ka kc (HKS.out.but (HB02.out.trans hL.2 (by simp)) (by simp)) HKB.out)
      clear hL HUP e1 hgood
      go_wp2_with fail
      refine HLK.out.mono ?_
      rintro e w5 ⟨rfl, hL5, -⟩
      rw [e5] at hL5 ⊢
      dsimp only at hL5 ⊢
      have HPL : Hid (PL w2 w5 P K V N ks p 0) := Lib.hid ⟨A5, rows1, hL5, hp5, by simpa using hl5⟩
      clear hL5 HLK e5 hp5 hl5
      go_wp2_with fail
      go_loopw [14] (fun i wr => ∃ j : Nat, j ≤ rows.length ∧ i = .int .i64 j ∧ PL w2 wr P K V N ks p j) (fun i _ => rows.length - (intOf i).toNat)
      case atStart => exact ⟨0, Nat.zero_le _, rfl, HPL.out⟩
      case round =>
        obtain ⟨j, hj, rfl, A, rs, hLB, hpl, hlen⟩ := hrel
        have HLB := Lib.hid hLB
        have HP := Lib.hid hpl
        have HLE := Lib.hid hlen
        have HBW : Hid (But [] w wr) := Lib.hid (HB02.out.trans hLB.2 (by simp))
        clear hLB hpl hlen
        by_cases hlt : j < rows.length
        · obtain ⟨hj0, hj2, hw1⟩ := pl_nums hlt HR60.out
          obtain ⟨r, hr⟩ : ∃ r, rows[j]? = some r := ⟨_, List.getElem?_eq_getElem hlt⟩
          obtain ⟨ad, a, c, rfl, hcell, hsr⟩ := HROW.out j r hr
          have HRB1 := Lib.hid (HRB.out r (List.mem_of_getElem? hr))
          have HCELL := Lib.hid hcell
          have HSR := Lib.hid hsr
          have HLT := Lib.hid hlt
          have c1 : wr.cell? (ad.add j) = some (.slice a r.length c) := cell_but HBW.out hcell (by simp)
          clear hcell hsr hr hlt
          by_cases q : (r.length : Int) ≤ 80
          · have rq : decide ((r.length : Int) ≤ 80) = true := decide_eq_true q
            have HSM := Lib.hid (sameL a ka c kc r ks wr (HSR.out.but HBW.out (by simp)) (HKS.out.but HBW.out (by simp)) (by omega))
            by_cases hne : r = ks
            · rw [decide_eq_true hne] at HSM
              clear q hne
              go_wp2_with fail
              refine HSM.out.mono ?_
              rintro e w6 ⟨rfl, hb6⟩
              have HPL6 : Hid (PL w2 w6 P K V N ks p (j + 1)) := Lib.hid ⟨A, rs, HLB.out.keep hb6, HP.out, Nat.le_succ_of_le HLE.out⟩
              clear hb6 HSM c1
              go_wp2_with fail
              go_roundw
              case rel => exact ⟨j + 1, HLT.out, by go_num, HPL6.out⟩
              case measure => first | exact pl_meas HLT.out | exact (round_num HLT.out (Nat.le_trans HR60.out (by decide))).2
            · rw [decide_eq_false hne] at HSM
              have HNE := Lib.hid hne
              clear q hne
              go_wp2_with fail
              refine HSM.out.mono ?_
              rintro e w6 ⟨rfl, hb6⟩
              have HB6 := Lib.hid (HBW.out.trans hb6 (by simp))
              have HL6 := Lib.hid (HLB.out.keep hb6)
              have c6 : w6.cell? (ad.add j) = some (.slice a r.length c) := cell_but hb6 c1 (by simp)
              have HUP := Lib.hid (HL6.out.update (But.refl [] w6) a c (HSR.out.but HB6.out (by simp)) HRB1.out.1 va vc (HVS.out.but HB6.out (by simp)) HVB.out 0 (by decide) (offU HSR.out HB02.out.size HL6.out.2.size) (offU HVS.out HB02.out.size HL6.out.2.size) HKVN.out.1 HKVN.out.2.1)
              clear hb6 HSM c1
              go_wp2_with fail
              refine HUP.out.mono ?_
              rintro e w7 ⟨rfl, hL7, -⟩
              have HPL7 : Hid (PL w2 w7 P K V N ks p (j + 1)) := Lib.hid ⟨_, _, hL7, upd_keep HP.out HNE.out HLE.out HLT.out HLN.out⟩
              clear hL7 HUP c6
              go_wp2_with fail
              go_roundw
              case rel => exact ⟨j + 1, HLT.out, by go_num, HPL7.out⟩
              case measure => first | exact pl_meas HLT.out | exact (round_num HLT.out (Nat.le_trans HR60.out (by decide))).2
          · have rq : decide ((r.length : Int) ≤ 80) = false := decide_eq_false q
            have HPL6 : Hid (PL w2 wr P K V N ks p (j + 1)) := Lib.hid ⟨A, rs, HLB.out, HP.out, Nat.le_succ_of_le HLE.out⟩
            clear q
            go_wp2_with fail
            go_roundw
            case rel => exact ⟨j + 1, HLT.out, by go_num, HPL6.out⟩
            case measure => first | exact pl_meas HLT.out | exact (round_num HLT.out (Nat.le_trans HR60.out (by decide))).2
        · obtain rfl : j = rows.length := num_eq hj hlt
          clear hj hlt
          obtain ⟨A8, e8, hp8, -⟩ := look_place HP.out HG.out.1 HLB.out.1.nodup
          have HLK := Lib.hid (HLB.out.lookup (But.refl [] wr) ka kc (HKS.out.but HBW.out (by simp)) HKB.out)
          have HP8 := Lib.hid hp8
          clear hp8
          go_wp2_with fail
          refine HLK.out.mono ?_
          rintro e w8 ⟨rfl, hL8, -⟩
          rw [e8] at hL8 ⊢
          dsimp only at hL8 ⊢
          have HB8 : Hid (But [] w w8) := Lib.hid (HB02.out.trans hL8.2 (by simp))
          obtain ⟨A9, rs9, e9, hp9⟩ := upd_there (rows := rs) (V := V) (N := N) (vs := vs) HP8.out HG.out.1 HG.out.2 hL8.1.nodup
          have HUP := Lib.hid (hL8.update (But.refl [] w8) ka kc (HKS.out.but HB8.out (by simp)) HKB.out va vc (HVS.out.but HB8.out (by simp)) HVB.out 2 (by decide) (offU HKS.out HB02.out.size hL8.2.size) (offU HVS.out HB02.out.size hL8.2.size) HKVN.out.1 HKVN.out.2.1)
          have HP9 := Lib.hid hp9
          clear hL8 HLK e8 hp9
          go_wp2_with fail
          refine HUP.out.mono ?_
          rintro e w9 ⟨rfl, hL9, -⟩
          rw [e9] at hL9 ⊢
          dsimp only at hL9 ⊢
          have HB9 : Hid (But [] w w9) := Lib.hid (HB02.out.trans hL9.2 (by simp))
          obtain ⟨A10, e10, hp10, -⟩ := look_place HP9.out HG.out.1 hL9.1.nodup
          have HLK := Lib.hid (hL9.lookup (But.refl [] w9) ka kc (HKS.out.but HB9.out (by simp)) HKB.out)
          have HP10 := Lib.hid hp10
          clear hL9 HUP e9 hp10
          go_wp2_with fail
          refine HLK.out.mono ?_
          rintro e w10 ⟨rfl, hL10, -⟩
          rw [e10] at hL10 ⊢
          dsimp only at hL10 ⊢
          have HB10 : Hid (But [] w w10) := Lib.hid (HB02.out.trans hL10.2 (by simp))
          have e11 := upd_new (rows := rs9) (V := V) (N := N) (vs := vs) HP10.out HG.out.1 HG.out.2
          have HUP := Lib.hid (hL10.update (But.refl [] w10) ka kc (HKS.out.but HB10.out (by simp)) HKB.out va vc (HVS.out.but HB10.out (by simp)) HVB.out 1 (by decide) (offU HKS.out HB02.out.size hL10.2.size) (offU HVS.out HB02.out.size hL10.2.size) HKVN.out.1 HKVN.out.2.1)
          clear hL10 HLK e10
          go_wp2_with fail
          refine HUP.out.mono ?_
          rintro e w11 ⟨rfl, hL11, -⟩
          rw [e11] at hL11 ⊢
          dsimp only at hL11 ⊢
          have HB11 : Hid (But [] w w11) := Lib.hid (HB02.out.trans hL11.2 (by simp))
          clear hL11 HUP e11
          go_wp2_with fail
          go_ret
          exact ⟨rfl, HB11.out⟩
    · have e1 := (upd_first (K := K) (V := V) (rows := List.replicate N (List.replicate V 0)) (ks := ks) (vs := vs) HKVN.out.2.2).1 hgood
      rw [e1] at hL ⊢
      dsimp only at hL ⊢
      obtain ⟨e5, he5, he6⟩ := look_nil (K := K) (ks := ks)
      have HLK := Lib.hid (hL.lookup (But.refl [] w4) ka kc (HKS.out.but (HB02.out.trans hL.2 (by simp)) (by simp)) HKB.out)
      clear hL HUP
      go_wp2_with fail
      refine HLK.out.mono ?_
      rintro e w5 ⟨rfl, hL5, -⟩
      rw [he5] at hL5 ⊢
      have HL5 := Lib.hid hL5
      have HKE := Lib.hid hL5.1.keys0
      clear hL5 HLK he5
      rcases he6 with rfl | rfl
      · go_wp2_with fail
        refine HKE.out.mono ?_
        rintro e w6 ⟨rfl, hb6⟩
        have HB6 := Lib.hid ((HB02.out.trans HL5.out.2 (by simp)).trans hb6 (by simp))
        clear hb6
        go_wp2_with fail
        go_ret
        exact ⟨rfl, HB6.out⟩
      · go_wp2_with fail
        refine HKE.out.mono ?_
        rintro e w6 ⟨rfl, hb6⟩
        have HB6 := Lib.hid ((HB02.out.trans HL5.out.2 (by simp)).trans hb6 (by simp))
        clear hb6
        go_wp2_with fail
        go_ret
        exact ⟨rfl, HB6.out⟩
theorem lruPlaces_walk (w : World) (s : MSpec) (kv : Value) (ks : List Int) (vv : Value) (vs : List Int) (ov : Value) (rows : List (List Int)) (hs : (Lit.int .u8 s.k).wf = true ∧ (Lit.int .i64 s.key).wf = true ∧ (Lit.int .i64 s.val).wf = true ∧ (Lit.int .i64 s.ent).wf = true)
    (hk : Sees w kv (u8s ks) ∧ ByteL ks) (hkl : ks.length ≤ 140737488351232) (hv : Sees w vv (u8s vs) ∧ ByteL vs) (hvl : vs.length ≤ 140737488351232) (hr : SeesRows w ov (rows.map u8s)) (hrl : rows.length ≤ 140737488351232) (hrb : ∀ r ∈ rows, ByteL r ∧ r.length ≤ 140737488351232) :
    Calls Try.prog 3 #[s.v, kv, vv, ov] w fun e w' => e = .returned (.bool true) ∧ Below w.heap.size w w' := by
  obtain ⟨a1, c1, e1, _⟩ := sees_shape hk.1
  obtain ⟨a2, c2, e2, _⟩ := sees_shape hv.1
  rw [u8s_len] at e1 e2
  obtain ⟨a3, n3, c3, rfl⟩ : ∃ a n c, ov = .slice a n c := by
    obtain ⟨vals, h1, _⟩ := hr
    obtain ⟨a, c, e, _⟩ := sees_shape h1
    exact ⟨_, _, _, e⟩
  subst e1 e2
  exact (lruPlaces s.k s.key s.val s.ent a1 a2 a3 c1 c2 n3 c3 ks vs rows w hs.1 hk.1 hk.2 hv.1 hv.2 hr hrb).mono fun _ _ ⟨he, hb⟩ => ⟨he, hb.below (Nat.le_refl _) (by simp)⟩
end Go.Proofs.Ytifgfnifadmoaaa.M
