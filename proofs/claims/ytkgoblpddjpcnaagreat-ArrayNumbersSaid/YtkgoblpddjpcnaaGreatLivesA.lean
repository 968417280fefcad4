/-
  'ArrayLives' tells true: the walk.
-/
import Derived.Test.YtkgoblpddjpcnaaGreatStep
import Derived.Test.YtkgoblpddjpcnaaGreatArrAwake
import Derived.Deep.DeepCutAuto
import Derived.Deep.CutBlock
import Derived.BigQuiet
namespace Go.Proofs.YtkgoblpddjpcnaaGreat.M
open Go.RowKit Go.Shelf
set_option linter.unusedVariables false
set_option linter.unusedSectionVars false
set_option linter.unusedSimpArgs false
def SomeBool (w : World) (e : Ending) (w' : World) : Prop := ∃ b, e = .returned (.bool b) ∧ But [] w w'
set_option maxHeartbeats 2000000 in
theorem great (k key val ent : Int) (v : Value) (l : List DeedA) (w : World) (hs : SeesDeeds w v l) (hl : l.length ≤ 3518437208780) :
    Calls Tryz.prog 5 #[.agg #[.int .u8 k, .int .i64 key, .int .i64 val, .int .i64 ent], v] w (SomeBool w) := by
  obtain ⟨a, c, rfl, hD⟩ := hs
  have HD := Lib.hid hD
  obtain ⟨w1, hw1⟩ : ∃ w1, w1 = w.alloc (.cells #[.int .u8 k, .int .i64 key, .int .i64 val, .int .i64 ent] 24) := ⟨_, rfl⟩
  have hb1 : But [] w w1 := by rw [hw1]; exact (But.refl [] w).alloc _
  have g0 : w1.heap[w.heap.size]? = some (.cells #[.int .u8 k, .int .i64 key, .int .i64 val, .int .i64 ent] 24) := by rw [hw1]; exact al_at w _
  obtain ⟨P, hP⟩ : ∃ P, P = w.heap.size := ⟨_, rfl⟩
  rw [← hP] at g0
  have HW := Lib.hid hw1
  have HB1 := Lib.hid hb1
  have HPP := Lib.hid hP
  have G0 := Lib.hid g0
  clear hD hw1 hb1 hP g0
  go_enter Tryz.func5, Tryz.ntmps5
  go_wp2_with fail
  rw [← HW.out, ← HPP.out]
  go_loopw [5, 6] (fun n i wr => ∃ (k : Nat) (m : Int), k ≤ l.length ∧ i = .int .i64 k ∧ n = .int .i64 m ∧ But [] w1 wr) (fun _ i _ => l.length - (intOf i).toNat)
  case atStart => exact ⟨0, l.length, by omega, rfl, rfl, But.refl _ _⟩
  case round =>
    obtain ⟨k', m, hk, rfl, rfl, hb⟩ := hrel
    have HB := Lib.hid hb
    have hh := hb.heap G0.out (by simp)
    have d2 : wr.cell? ⟨P, 2, none⟩ = some (.int .i64 val) := cl_of hh 2
    have d3 : wr.cell? ⟨P, 3, none⟩ = some (.int .i64 ent) := cl_of hh 3
    clear hh
    by_cases hlt : k' < l.length
    · obtain ⟨d, hd⟩ : ∃ d, l[k']? = some d := ⟨_, List.getElem?_eq_getElem hlt⟩
      obtain ⟨b, o, rfl, h1, h2⟩ := (HD.out k' d hd).keep (HB1.out.trans hb (by simp))
      obtain ⟨t, s, u, ks, bs, fl, pl, of⟩ := d
      obtain ⟨a3, c3, e3⟩ := form_of h2.key
      obtain ⟨a4, c4, e4⟩ := form_of h2.b
      simp only at e3 e4
      subst e3 e4
      have e1 : wr.cell? ⟨b, o + k' * 6 + 1, none⟩ = some (.slice a3 (u8s ks).length c3) := h1 1 _ rfl
      have e2 : wr.cell? ⟨b, o + k' * 6 + 2, none⟩ = some (.slice a4 (u8s bs).length c4) := h1 2 _ rfl
      have b1 : (u8s ks).length ≤ 140737488351232 := by rw [u8s_len]; exact h2.keyl
      have b2 : (u8s bs).length ≤ 140737488351232 := by rw [u8s_len]; exact h2.bl
      have hk0 : (0 : Int) ≤ k' := by omega
      have hk1 : (k' : Int) < l.length := by omega
      clear hb h1 h2 hd
      by_cases hm : m ≤ 300
      · go_wp2_with fail
        go_quiet (fail)
        go_wp2_with fail
        have HB2 := Lib.hid (HB.out.drewN nq)
        go_roundw
        case rel => exact ⟨k' + 1, _, by omega, by go_num, rfl, HB2.out⟩
        case measure => simp [intOf]; omega
      · by_cases h40 : (40 : Int) < ent
        · by_cases h1024 : ent ≤ 1024
          · go_wp2_with fail
            all_goals
              go_ret
              exact ⟨_, rfl, HB1.out.trans HB.out (by simp)⟩
          · go_wp2_with fail
            all_goals
              go_ret
              exact ⟨_, rfl, HB1.out.trans HB.out (by simp)⟩
        · go_wp2_with fail
          all_goals
            go_ret
            exact ⟨_, rfl, HB1.out.trans HB.out (by simp)⟩
    · by_cases hm : (300 : Int) < m
      · go_wp2_with fail
        all_goals
          go_ret
          exact ⟨_, rfl, HB1.out.trans HB.out (by simp)⟩
      · by_cases h40 : (40 : Int) < ent
        · by_cases h1024 : ent ≤ 1024
          · go_wp2_with fail
            all_goals
              go_ret
              exact ⟨_, rfl, HB1.out.trans HB.out (by simp)⟩
          · go_wp2_with fail
            all_goals
              go_ret
              exact ⟨_, rfl, HB1.out.trans HB.out (by simp)⟩
        · go_wp2_with fail
          all_goals
            go_ret
            exact ⟨_, rfl, HB1.out.trans HB.out (by simp)⟩
/-- What stands at the head of a round. -/
def HeadA (W0 : World) (n0 n1 n2 A X val n : Nat) (wr : World) : Prop := ∃ rows, rows.length = n ∧ AL W0 n0 n1 n2 A X val rows rows wr
set_option maxRecDepth 100000 in
set_option maxHeartbeats 8000000 in
theorem arrayLives (k key val ent : Int) (v : Value) (l : List DeedA) (w : World) (hk : (Lit.int .u8 k).wf = true) (hs : SeesDeeds w v l) (hl : l.length ≤ 3518437208780) :
    Calls Tryz.prog 3 #[.agg #[.int .u8 k, .int .i64 key, .int .i64 val, .int .i64 ent], v] w fun e w' => e = .returned (.bool true) ∧ But [] w w' := by
  obtain ⟨a, c, rfl, hD⟩ := hs
  have HD := Lib.hid hD
  have HWF := Lib.hid hk
  have hbox := al_at w (.cells #[.int .u8 k, .int .i64 key, .int .i64 val, .int .i64 ent] 24)
  have HBOX := Lib.hid hbox
  have HB0 : Hid (But [] w (w.alloc (.cells #[.int .u8 k, .int .i64 key, .int .i64 val, .int .i64 ent] 24))) := Lib.hid ((But.refl _ _).alloc _)
  clear hD hk hbox
  go_enter Tryz.func3, Tryz.ntmps3
  go_wp2_with fail
  refine (great _ _ _ _ _ l _ ⟨a, c, rfl, fun i d h => (HD.out i d h).keep HB0.out⟩ hl).mono ?_
  rintro e w1 ⟨g, rfl, hb⟩
  have HBX1 := Lib.hid (hb.heap HBOX.out (by simp))
  have HB1 : Hid (But [] w w1) := Lib.hid (HB0.out.trans hb (by simp))
  clear hb HBOX HB0
  cases g with
  | true =>
    go_wp2_with fail
    refine (awake _).mono ?_
    rintro e w2 ⟨rfl, hb⟩
    have HB2 : Hid (But [] w w2) := Lib.hid (HB1.out.trans hb (by simp))
    clear hb
    go_wp2_with fail
    go_ret
    exact ⟨rfl, HB2.out⟩
  | false =>
    have c0 : w1.cell? ⟨w.heap.size, 0, none⟩ = some (.int .u8 k) := cl_of HBX1.out 0
    have c1 : w1.cell? ⟨w.heap.size, 1, none⟩ = some (.int .i64 key) := cl_of HBX1.out 1
    have c2 : w1.cell? ⟨w.heap.size, 2, none⟩ = some (.int .i64 val) := cl_of HBX1.out 2
    have c3 : w1.cell? ⟨w.heap.size, 3, none⟩ = some (.int .i64 ent) := cl_of HBX1.out 3
    by_cases hE : specE k key val ent = 0
    · by_cases h1 : k = 1
      · subst h1
        obtain ⟨rfl, hv1, hv2, he1, he2⟩ := specE_array hE
        obtain ⟨n, rfl⟩ : ∃ n : Nat, val = (n : Int) := ⟨val.toNat, by omega⟩
        obtain ⟨m, rfl⟩ : ∃ m : Nat, ent = (m : Int) := ⟨ent.toNat, by omega⟩
        have HSE := Lib.hid hE
        clear hE
        go_wp2_with fail
        refine (newArr n m (by omega) (by omega) HSE.out (fun b => w1.heap.size ≤ b) (fun b hb => hb)).mono ?_
        rintro e w2 ⟨A, rfl, hS2, hb2⟩
        have hh := hb2.heap HBX1.out (by simp)
        have HB2 := Lib.hid hb2
        have d0 : w2.cell? ⟨w.heap.size, 0, none⟩ = some (.int .u8 1) := cl_of hh 0
        have d1 : w2.cell? ⟨w.heap.size, 1, none⟩ = some (.int .i64 4) := cl_of hh 1
        have d2 : w2.cell? ⟨w.heap.size, 2, none⟩ = some (.int .i64 n) := cl_of hh 2
        have d3 : w2.cell? ⟨w.heap.size, 3, none⟩ = some (.int .i64 m) := cl_of hh 3
        have HS2 := Lib.hid hS2
        clear hh hb2 hS2 c0 c1 c2 c3
        go_wp2_with fail
        refine (refNewArr n m _ (by omega) (by omega) HSE.out (fun b => w2.heap.size ≤ b) (fun b hb => hb)).mono ?_
        rintro e w3 ⟨X, rfl, hR3, hb3⟩
        have HH0 : Hid (HeadA w1 w1.heap.size w2.heap.size w3.heap.size A X n m w3) := Lib.hid ⟨List.replicate m (zeros n), by simp, { b0 := Nat.le_refl _, b1 := HB2.out.size, b2 := hb3.size, b3 := Nat.le_refl _, arr := (HS2.out.also (fun b hb hk => show w1.heap.size ≤ b ∧ b < w2.heap.size from ⟨hk, hb⟩)).keep hb3 (by simp), ref := hR3.also (fun b hb hk => ⟨hk, hb⟩), but := HB2.out.trans hb3 (by simp) }⟩
        have HD1 : Hid (∀ (i : Nat) (d : DeedA), l[i]? = some d → DeedAt w1 a i d) := Lib.hid fun i d h => (HD.out i d h).keep HB1.out
        obtain ⟨n1, hn1⟩ : ∃ n1, n1 = w2.heap.size := ⟨_, rfl⟩
        obtain ⟨n2, hn2⟩ : ∃ n2, n2 = w3.heap.size := ⟨_, rfl⟩
        rw [← hn1, ← hn2] at HH0
        clear hR3 hb3 HS2 HB2 d0 d1 d2 d3 hn1 hn2 HD
        go_wp2_with fail
        go_loopw [9] (fun i wr => ∃ j : Nat, j ≤ l.length ∧ i = .int .i64 j ∧ HeadA w1 w1.heap.size n1 n2 A X n m wr) (fun i _ => l.length - (intOf i).toNat)
        case atStart => exact ⟨0, Nat.zero_le _, rfl, HH0.out⟩
        case round =>
          obtain ⟨j, hj, rfl, rows, hrl, hL⟩ := hrel
          have HL := Lib.hid hL
          have HRL := Lib.hid hrl
          clear hL hrl HH0
          by_cases hlt : j < l.length
          · obtain ⟨d, hd⟩ : ∃ d, l[j]? = some d := ⟨_, List.getElem?_eq_getElem hlt⟩
            obtain ⟨b, o, rfl, g1, g2⟩ := HD1.out j d hd
            have hbr := HL.out.but
            have HST := Lib.hid (step_all HL.out d g2)
            obtain ⟨t, s, u, ks, bs, fl, pl, of⟩ := d
            obtain ⟨a3, c3, e3⟩ := form_of g2.key
            obtain ⟨a4, c4, e4⟩ := form_of g2.b
            simp only at e3 e4 HST
            subst e3 e4
            have e0 : wr.cell? ⟨b, o + j * 6, none⟩ = some (.int .i64 t) := cell_but hbr (g1 0 _ rfl) (by simp)
            have e1 : wr.cell? ⟨b, o + j * 6 + 1, none⟩ = some (.slice a3 (u8s ks).length c3) := cell_but hbr (g1 1 _ rfl) (by simp)
            have e2 : wr.cell? ⟨b, o + j * 6 + 2, none⟩ = some (.slice a4 (u8s bs).length c4) := cell_but hbr (g1 2 _ rfl) (by simp)
            have e3 : wr.cell? ⟨b, o + j * 6 + 3, none⟩ = some (.int .u64 fl) := cell_but hbr (g1 3 _ rfl) (by simp)
            have e4 : wr.cell? ⟨b, o + j * 6 + 4, none⟩ = some (.int .i64 pl) := cell_but hbr (g1 4 _ rfl) (by simp)
            have e5 : wr.cell? ⟨b, o + j * 6 + 5, none⟩ = some (.int .i64 of) := cell_but hbr (g1 5 _ rfl) (by simp)
            have hk0 : (0 : Int) ≤ j := by omega
            have hk1 : (j : Int) < l.length := by omega
            clear hd g1 g2 hbr
            go_wp2_with fail
            refine HST.out.mono ?_
            rintro e w4 ⟨rfl, rows', hrl', hL'⟩
            have HH1 : Hid (HeadA w1 w1.heap.size n1 n2 A X n m w4) := Lib.hid ⟨rows', hrl'.trans HRL.out, hL'⟩
            clear hL' hrl'
            go_wp2_with fail
            go_roundw
            case rel => exact ⟨j + 1, by omega, by go_num, HH1.out⟩
            case measure => simp [intOf]; omega
          · obtain rfl : j = l.length := by omega
            have HH1 : Hid (HeadA w1 w1.heap.size n1 n2 A X n m wr) := Lib.hid ⟨rows, HRL.out, HL.out⟩
            clear HL HRL
            go_wp2_with fail
            obtain ⟨wo, hwo⟩ : ∃ wo : World, wo = wr := ⟨_, rfl⟩
            rw [← hwo] at HH1 ⊢
            clear hwo
            go_loopw [10] (fun i wr => ∃ j : Nat, j ≤ m ∧ i = .int .i64 j ∧ HeadA w1 w1.heap.size n1 n2 A X n m wr) (fun i _ => m - (intOf i).toNat)
            case atStart => exact ⟨0, Nat.zero_le _, rfl, HH1.out⟩
            case round =>
              obtain ⟨j, hj, rfl, rows, hrl, hL⟩ := hrel
              have HL := Lib.hid hL
              have HRL := Lib.hid hrl
              have d3 : wr.cell? ⟨w.heap.size, 3, none⟩ = some (.int .i64 m) := cl_of (hL.but.heap HBX1.out (by simp)) 3
              have HVB := Lib.hid (valR_bytes hL.ref j)
              clear hL hrl HH1
              by_cases hlt : j < m
              · go_wp2_with fail
                refine (value_all HL.out.arr j).mono ?_
                rintro e w5 ⟨a5, c5, rfl, ho5, _, hb5⟩
                have HL5 := Lib.hid (HL.out.new hb5)
                have HO5 := Lib.hid ho5
                clear ho5 hb5
                go_wp2_with fail
                refine (refValue_all HL5.out.ref j (by omega)).mono ?_
                rintro e w6 ⟨a6, c6, rfl, ho6, _, hb6⟩
                have HL6 := Lib.hid (HL5.out.new hb6)
                have HO56 := Lib.hid (HO5.out.but hb6 (by simp))
                have HO6 := Lib.hid ho6
                clear ho6 hb6
                go_wp2_with fail
                refine (same_yesK _ _ (valR rows j) _ HO56.out.sees HO6.out.sees HVB.out.1 (by have := HVB.out.2; omega)).mono ?_
                rintro e w7 ⟨rfl, hb7⟩
                have HH2 : Hid (HeadA w1 w1.heap.size n1 n2 A X n m w7) := Lib.hid ⟨rows, HRL.out, HL6.out.new hb7⟩
                clear hb7
                go_wp2_with fail
                go_roundw
                case rel => exact ⟨j + 1, by omega, by go_num, HH2.out⟩
                case measure => simp [intOf]; omega
              · obtain rfl : j = m := by omega
                go_wp2_with fail
                refine (awake _).mono ?_
                rintro e w6 ⟨rfl, hb⟩
                have HB6 : Hid (But [] w w6) := Lib.hid ((HB1.out.trans HL.out.but (by simp)).trans hb (by simp))
                clear hb
                go_wp2_with fail
                go_ret
                exact ⟨rfl, HB6.out⟩
      · have HE := Lib.hid hE
        have h1' : (k == 1) = false := by simp only [beq_eq_false_iff_ne, ne_eq]; exact h1
        clear hE h1
        go_wp2_with fail
        refine (newKind k key val ent HWF.out HE.out h1').mono ?_
        rintro e w2 ⟨rfl, hb2⟩
        have hh := hb2.heap HBX1.out (by simp)
        have HB2 : Hid (But [] w w2) := Lib.hid (HB1.out.trans hb2 (by simp))
        have d0 : w2.cell? ⟨w.heap.size, 0, none⟩ = some (.int .u8 k) := cl_of hh 0
        have d1 : w2.cell? ⟨w.heap.size, 1, none⟩ = some (.int .i64 key) := cl_of hh 1
        have d2 : w2.cell? ⟨w.heap.size, 2, none⟩ = some (.int .i64 val) := cl_of hh 2
        have d3 : w2.cell? ⟨w.heap.size, 3, none⟩ = some (.int .i64 ent) := cl_of hh 3
        clear hh hb2 c0 c1 c2 c3 HBX1
        go_wp2_with fail
        refine (refNewKind k key val ent _ HE.out h1').mono ?_
        rintro e w3 ⟨rfl, hb3⟩
        have HB3 : Hid (But [] w w3) := Lib.hid (HB2.out.trans hb3 (by simp))
        clear hb3
        go_wp2_with fail
        refine (awake _).mono ?_
        rintro e w4 ⟨rfl, hb⟩
        have HB4 : Hid (But [] w w4) := Lib.hid (HB3.out.trans hb (by simp))
        clear hb
        go_wp2_with fail
        go_ret
        exact ⟨rfl, HB4.out⟩
    · obtain ⟨E, hEE⟩ : ∃ E, specE k key val ent = E := ⟨_, rfl⟩
      rw [hEE] at hE
      have h0 : (E == 0) = false := by simpa using hE
      have h0' : (E != E) = false := by simp
      have HE := Lib.hid hEE
      clear hE hEE
      go_wp2_with fail
      refine (newErr k key val ent E HWF.out HE.out h0).mono ?_
      rintro e w2 ⟨rfl, hb2⟩
      have hh := hb2.heap HBX1.out (by simp)
      have HB2 : Hid (But [] w w2) := Lib.hid (HB1.out.trans hb2 (by simp))
      have d0 : w2.cell? ⟨w.heap.size, 0, none⟩ = some (.int .u8 k) := cl_of hh 0
      have d1 : w2.cell? ⟨w.heap.size, 1, none⟩ = some (.int .i64 key) := cl_of hh 1
      have d2 : w2.cell? ⟨w.heap.size, 2, none⟩ = some (.int .i64 val) := cl_of hh 2
      have d3 : w2.cell? ⟨w.heap.size, 3, none⟩ = some (.int .i64 ent) := cl_of hh 3
      clear hh hb2 c0 c1 c2 c3 HBX1
      go_wp2_with fail
      refine (refNewErr k key val ent E _ HE.out h0).mono ?_
      rintro e w3 ⟨rfl, hb3⟩
      have HB3 : Hid (But [] w w3) := Lib.hid (HB2.out.trans hb3 (by simp))
      clear hb3
      go_wp2_with fail
      refine (awake _).mono ?_
      rintro e w4 ⟨rfl, hb⟩
      have HB4 : Hid (But [] w w4) := Lib.hid (HB3.out.trans hb (by simp))
      clear hb
      go_wp2_with fail
      go_ret
      exact ⟨rfl, HB4.out⟩
structure MSpec where
  k : Int
  key : Int
  val : Int
  ent : Int
def MSpec.v (s : MSpec) : Value := .agg #[.int .u8 s.k, .int .i64 s.key, .int .i64 s.val, .int .i64 s.ent]
section
variable {H : Type} {enc : TypeId × Value → H} {w : World}
set_option maxRecDepth 100000 in
theorem spec_in {base : Nat} {v : Value} {d : DataW H} {ps : List MemPlace} (hval : Value.okWide Tryz.prog w .any base 24 v) (h : DataW.Trod enc Tryz.prog w 0 (fun _ => true) true 24 v d ps) (hsz : ∀ n ∈ d.weights Tryz.prog 24, n ≤ reachBytes) :
    ∃ s : MSpec, v = s.v ∧ ((Lit.int .u8 s.k).wf = true ∧ (Lit.int .i64 s.key).wf = true ∧ (Lit.int .i64 s.val).wf = true ∧ (Lit.int .i64 s.ent).wf = true) := by
  obtain ⟨v0, v1, v2, v3, y0, y1, y2, y3, n, rfl, _, _, h0, h1, h2, h3⟩ := Joins.open_agg4 Tryz.underlying24 (by kernel_rfl) (by kernel_rfl) hval h
  obtain ⟨k, rfl, w0⟩ := int_cell rowK h0
  obtain ⟨key, rfl, w1⟩ := int_cell Tryz.underlying3 h1
  obtain ⟨val, rfl, w2⟩ := int_cell Tryz.underlying3 h2
  obtain ⟨ent, rfl, w3⟩ := int_cell Tryz.underlying3 h3
  exact ⟨⟨k, key, val, ent⟩, rfl, w0, w1, w2, w3⟩
end
theorem arrayLives_walk (w : World) (s : MSpec) (v : Value) (l : List DeedA) (hw : (Lit.int .u8 s.k).wf = true ∧ (Lit.int .i64 s.key).wf = true ∧ (Lit.int .i64 s.val).wf = true ∧ (Lit.int .i64 s.ent).wf = true) (hs : SeesDeeds w v l) (hl : l.length ≤ 3518437208780) :
    Calls Tryz.prog 3 #[s.v, v] w fun e w' => e = .returned (.bool true) ∧ Below w.heap.size w w' :=
  (arrayLives s.k s.key s.val s.ent v l w hw.1 hs hl).mono fun _ _ ⟨he, hb⟩ => ⟨he, hb.below (Nat.le_refl _) (by simp)⟩
end Go.Proofs.YtkgoblpddjpcnaaGreat.M
