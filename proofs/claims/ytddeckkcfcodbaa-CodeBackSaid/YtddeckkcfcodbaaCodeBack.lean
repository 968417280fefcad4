/-
  'CodeBack' tells true: the walk.
-/
import Derived.Test.YtddeckkcfcodbaaCame
import Derived.Deep.DeepCutAuto
import Derived.Deep.CutBlock
namespace Go.Proofs.Ytddeckkcfcodbaa.M
open Go.RowKit Go.Shelf
set_option linter.unusedVariables false
set_option linter.unusedSectionVars false
set_option linter.unusedSimpArgs false
set_option maxRecDepth 100000 in
set_option maxHeartbeats 8000000 in
theorem codeBack (vl vm vb : Value) (l m : List Ins) (bs : List Int) (w : World) (hL : CameI w vl l) (hM : CameI w vm m) (hB : Sees w vb (u8s bs) ∧ ByteL bs) (hl : l.length ≤ 140737488355328) (hm : m.length ≤ 140737488355328) (hb : bs.length ≤ 140737488351232) :
    Calls Try.prog 5 #[vl, vm, vb] w fun e w' => e = .returned (.bool true) ∧ But [] w w' := by
  obtain ⟨i0, hi, hz0, hz1, hz2⟩ := info_parts (show (Try.prog.info? 44).map (fun i => (i.zero, i.size, i.bytes)) = some (some (.agg #[.int .u8 0, .int .u8 0, .int .u8 0, .int .i16 0, .int .i32 0]), 5, 12) by kernel_rfl)
  obtain ⟨j0, ki, kz0, kz1, kz2⟩ := info_parts (show (Try.prog.info? 5).map (fun i => (i.zero, i.size, i.bytes)) = some (some (.int .u8 0), 1, 1) by kernel_rfl)
  obtain ⟨hls, hlok, hln⟩ := hL
  obtain ⟨hms, hmok, hmn⟩ := hM
  obtain ⟨hbs, hby⟩ := hB
  obtain ⟨la, lc, rfl, _⟩ := id hls
  obtain ⟨ma, mc, rfl, _⟩ := id hms
  obtain ⟨ba, bc, rfl, hbd⟩ := seesD_sees hbs
  have HLS := Lib.hid hls
  have HMS := Lib.hid hms
  have HBS := Lib.hid hbs
  have HBD := Lib.hid hbd
  have HLOK := Lib.hid hlok
  have HMOK := Lib.hid hmok
  have HBY := Lib.hid hby
  have HLN : Hid (la = none → l.length = 0 ∧ lc = 0) := Lib.hid fun e => by subst e; exact ⟨seesI_none hls, hln _ _ _ rfl rfl⟩
  have HMN : Hid (ma = none → m.length = 0 ∧ mc = 0) := Lib.hid fun e => by subst e; exact ⟨seesI_none hms, hmn _ _ _ rfl rfl⟩
  have HLLT : Hid (∀ b, (Value.slice la l.length lc).ownBlock = some b → l ≠ [] → b < w.heap.size) := Lib.hid fun b hb hne => by
    cases l with
    | nil => exact absurd rfl hne
    | cons x l =>
      obtain ⟨b', o, rfl, hc⟩ := seesI_cell hls (i := 0) (x := x) rfl
      cases hb
      exact (show b' < _ from cell_lt (hc w (But.refl _ _)).1)
  have HMLT : Hid (∀ b, (Value.slice ma m.length mc).ownBlock = some b → m ≠ [] → b < w.heap.size) := Lib.hid fun b hb hne => by
    cases m with
    | nil => exact absurd rfl hne
    | cons x m =>
      obtain ⟨b', o, rfl, hc⟩ := seesI_cell hms (i := 0) (x := x) rfl
      cases hb
      exact (show b' < _ from cell_lt (hc w (But.refl _ _)).1)
  have hl0 : (0 : Int) ≤ l.length := by omega
  have hm0 : (0 : Int) ≤ m.length := by omega
  have hb0 : (0 : Int) ≤ bs.length := by omega
  clear hls hms hbs hbd hlok hmok hby hln hmn
  go_enter Try.func5, Try.ntmps5
  go_wp2_with fail
  refine (awake _).mono ?_
  rintro e w1 ⟨rfl, hb1⟩
  have HB1 := Lib.hid hb1
  clear hb1
  by_cases h2 : l.length + m.length ≤ 2000
  · by_cases h3 : bs.length ≤ 16000
    · have h2' : ¬ (2000 : Int) < l.length + m.length := by omega
      have h3' : ¬ (16000 : Int) < bs.length := by omega
      go_wp2_with fail
      refine (get_c ba bc bs _ (HBD.out.but HB1.out (by simp)) HBY.out (by omega)).mono ?_
      rintro e w2 ⟨xa, xn, xc, rfl, hx2, hb2⟩
      have HB2 := Lib.hid (HB1.out.trans hb2 (by simp))
      have HX2 := Lib.hid hx2
      have hq : ((getErr bs.length == 0) == ((bs.length : Int) % 8 == 0)) = true := by
        rw [getErr_is (by omega)]
        by_cases h8 : bs.length % 8 = 0
        · rw [if_pos h8, show ((bs.length : Int) % 8 == 0) = true by simp; omega]; rfl
        · rw [if_neg h8, show ((bs.length : Int) % 8 == 0) = false by simp; omega]; rfl
      clear hx2 hb2
      go_upto_if 45 with fail
      clear hq
      go_cut [] (fun wx => But [] w wx)
      case first =>
        by_cases hg : getErr bs.length = 0
        · obtain ⟨hp1, hp2⟩ := put_get HBY.out hg
          obtain ⟨xc', xca, hxf⟩ := HX2.out.form
          simp only [Value.slice.injEq] at hxf
          obtain ⟨rfl, rfl, rfl⟩ := hxf
          have hlen : (getRow bs).length = bs.length / 8 := by unfold getRow; rw [if_pos hg, decL_len]
          have hok : ∀ x ∈ getRow bs, InsOk x := fun x hx => by unfold getRow at hx; rw [if_pos hg] at hx; exact (good_dec HBY.out _ x hx).1
          have HP := Lib.hid (put_c _ (getRow bs) _ HX2.out.sees hok (by omega) (fun b hb _ => HX2.out.lt hb))
          have hqu : ((bs.length : Int) / 8) = ((getRow bs).length : Int) := by omega
          have HG := Lib.hid hg
          have HP1 := Lib.hid hp1
          have HP2 := Lib.hid hp2
          have HLEN := Lib.hid hlen
          have hg1 : (getErr bs.length == 0) = true := by simpa using hg
          clear hp1 hp2 hok hg hlen
          go_wp2_with fail
          refine HP.out.mono ?_
          rintro e w3 ⟨ca, cn, cc, rfl, hr3, hb3⟩
          rw [HP1.out]
          rw [HP2.out] at hr3
          obtain rfl : cn = bs.length := by have := hr3.1.len; rw [u8s_len] at this; exact this.symm
          have HR3 := Lib.hid hr3.1
          have HB3 := Lib.hid (HB2.out.trans hb3 (by simp))
          have HBS3 := Lib.hid (HBS.out.but HB3.out (by simp))
          clear hr3 hb3
          go_wp2_with fail
          refine (same _ _ bs bs _ HR3.out.sees HBS3.out (by omega)).mono ?_
          rintro e w4 ⟨rfl, hb4⟩
          rw [show decide (bs = bs) = true by simp]
          have HB4 := Lib.hid (HB3.out.trans hb4 (by simp))
          clear hb4
          go_wp2_with fail
          go_meet
          exact HB4.out
        · have hg2 : (getErr bs.length == 0) = false := by simpa using hg
          go_wp2_with fail
          go_meet
          exact HB2.out
      case rest =>
        have HB3 := Lib.hid hcut
        clear hcut HX2 HB2
        go_wp2_with fail
        refine (put_c _ l _ (HLS.out.but HB3.out (by simp)) HLOK.out (by omega) (fun b hb hne => Nat.lt_of_lt_of_le (HLLT.out b hb hne) HB3.out.size)).mono ?_
        rintro e w4 ⟨pa, pn, pc, rfl, hr4, hb4⟩
        obtain rfl : pn = (putRow l).length := by have := hr4.1.len; rw [u8s_len] at this; exact this.symm
        have HB4 := Lib.hid (HB3.out.trans hb4 (by simp))
        have HR4 := Lib.hid hr4.1
        have HPN : Hid (NewIn w (.slice pa (putRow l).length pc)) := Lib.hid fun b hb => by have := hr4.2 b hb; have := HB3.out.size; omega
        clear hr4 hb4
        go_wp2_with fail
        refine (put_c _ m _ (HMS.out.but HB4.out (by simp)) HMOK.out (by omega) (fun b hb hne => Nat.lt_of_lt_of_le (HMLT.out b hb hne) HB4.out.size)).mono ?_
        rintro e w5 ⟨qa, qn, qc, rfl, hr5, hb5⟩
        obtain rfl : qn = (putRow m).length := by have := hr5.1.len; rw [u8s_len] at this; exact this.symm
        have HB5 := Lib.hid (HB4.out.trans hb5 (by simp))
        have HR45 := Lib.hid (HR4.out.but hb5 (by simp))
        have HR5 := Lib.hid hr5.1
        clear hr5 hb5 HR4
        have HE0 : Hid ((w5.alloc (.cells #[] 44)).ownsRow w5.heap.size 44 5 (.slice (some ⟨w5.heap.size, 0, none⟩) 0 0) 0 []) := Lib.hid (World.ownsRow_made w5 #[] 0 (Nat.le_refl _) (by decide) rfl)
        have HLS5 := Lib.hid (seesI_at (HLS.out.but (HB5.out.alloc (.cells #[] 44)) (by simp)))
        have K1 : Hid (∀ (v' : Value) (w6 : World), w6.ownsRow w5.heap.size 44 5 v' (0 + l.length) ([] ++ l.flatMap Ins.cells) → (w5.alloc (.cells #[] 44)).grownBy w6 (Value.slice (some ⟨w5.heap.size, 0, none⟩) 0 0).ownBlock → ∃ a' c', v' = .slice a' l.length c' ∧ w6.ownsRow w5.heap.size 44 5 (.slice a' l.length c') l.length (l.flatMap Ins.cells) ∧ (∀ b, (Value.slice a' l.length c').ownBlock = some b → w5.heap.size ≤ b) ∧ But [] w5 w6) := Lib.hid fun v' w6 hown hg => by
          obtain ⟨a', c', e⟩ := row_form hown
          rw [Nat.zero_add] at e hown
          rw [List.nil_append] at hown
          subst e
          have hb : But [] w5 w6 := ((But.refl [] w5).alloc _).grown hg (fun k hk => .inr (by cases hk; exact Nat.le_refl _))
          exact ⟨a', c', rfl, hown, fun b hb' => (ownsRow_tag hown hb').1, hb⟩
        have K2 : Hid (∀ (w6 : World) (a' : Option Addr) (c' : Nat) (v' : Value) (w7 : World), But [] w5 w6 → (∀ b, (Value.slice a' l.length c').ownBlock = some b → w5.heap.size ≤ b) → w7.ownsRow w5.heap.size 44 5 v' (l.length + m.length) (l.flatMap Ins.cells ++ m.flatMap Ins.cells) → w6.grownBy w7 (Value.slice a' l.length c').ownBlock → ∃ a2 c2, v' = .slice a2 (l.length + m.length) c2 ∧ RowI w5.heap.size w7 (.slice a2 (l.length + m.length) c2) (l ++ m) ∧ But [] w5 w7) := Lib.hid fun w6 a' c' v' w7 hb6 hlo hown hg => by
          obtain ⟨a2, c2, e⟩ := row_form hown
          subst e
          exact ⟨a2, c2, rfl, rowI_more hown, hb6.grown hg (fun k hk => .inr (hlo k hk))⟩
        have HFL := Lib.hid (flat_lenI l)
        have HZ5 : Hid (w5.heap.size ≤ (w5.alloc (.cells #[] 44)).heap.size) := Lib.hid (by rw [size_alloc]; omega)
        have HFM := Lib.hid (flat_lenI m)
        have HOL := Lib.hid (flat_oneI l)
        have HOM := Lib.hid (flat_oneI m)
        have HMS6 := Lib.hid (fun (w6 : World) (hb : But [] w5 w6) => seesI_at (HMS.out.but (HB5.out.trans hb (by simp)) (by simp)))
        have HPP := Lib.hid (fun (w7 : World) (hb : But [] w5 w7) (a2 : Option Addr) (c2 : Nat) (hr : RowI w5.heap.size w7 (.slice a2 (l.length + m.length) c2) (l ++ m)) => put_c (.slice a2 (l.length + m.length) c2) (l ++ m) w7 hr.sees (fun x hx => by rcases List.mem_append.1 hx with hx | hx; exact HLOK.out x hx; exact HMOK.out x hx) (by rw [List.length_append]; omega) (fun b hb _ => hr.lt hb))
        go_wp2_with (first
          | (at_builtin; refine wpList_append_own_any _ (by rfl) _ _ 22 (by rfl) w5.heap.size 44 i0 (.agg #[.int .u8 0, .int .u8 0, .int .u8 0, .int .i16 0, .int .i32 0]) 5 12 Try.underlying22 hi hz0 hz1 hz2 (by rfl) (by decide) (.slice (some ⟨w5.heap.size, 0, none⟩) 0 0) 0 [] (by rfl) HE0.out la l.length lc (l.flatMap Ins.cells) (by rfl) HFL.out HLN.out HLS5.out HOL.out (by unfold maxLen; omega) (by omega) HZ5.out ?_; intro v' w6 hown hg; go_must (have h := K1.out v' w6 hown hg); obtain ⟨a', c', rfl, ho, hlo, hb6⟩ := h; have HO6 := Lib.hid ho; have HLO6 := Lib.hid hlo; have HB6 := Lib.hid hb6; clear hown hg ho hlo hb6)
          | (at_builtin; refine wpList_append_own_any _ (by rfl) _ _ 22 (by rfl) w5.heap.size 44 i0 (.agg #[.int .u8 0, .int .u8 0, .int .u8 0, .int .i16 0, .int .i32 0]) 5 12 Try.underlying22 hi hz0 hz1 hz2 (by rfl) (by decide) _ l.length (l.flatMap Ins.cells) (by rfl) HO6.out ma m.length mc (m.flatMap Ins.cells) (by rfl) HFM.out HMN.out (HMS6.out _ HB6.out) HOM.out (by unfold maxLen; omega) (by omega) HB6.out.size ?_; intro v' w7 hown hg; go_must (have h := K2.out _ _ _ v' w7 HB6.out HLO6.out hown hg); obtain ⟨a2, c2, rfl, hr7, hb7⟩ := h; have HR7 := Lib.hid hr7; have HB7 := Lib.hid hb7; clear hown hg hr7 hb7))
        refine (HPP.out _ HB7.out a2 c2 HR7.out).mono ?_
        rintro e w8 ⟨ya, yn, yc, rfl, hr8, hb8⟩
        obtain rfl : yn = (putRow (l ++ m)).length := by have := hr8.1.len; rw [u8s_len] at this; exact this.symm
        have HBB : Hid (But [] w5 w8) := Lib.hid (HB7.out.trans hb8 (by simp))
        have HB8 := Lib.hid (HB5.out.trans HBB.out (by simp))
        have HR8 := Lib.hid hr8.1
        have HA8 : Hid (∀ b, (Value.slice ya (putRow (l ++ m)).length yc).ownBlock = some b → w5.heap.size ≤ b) := Lib.hid fun b hb => by have := hr8.2 b hb; have := HB7.out.size; omega
        have HP8 := Lib.hid (HR45.out.but HBB.out (by simp))
        have HQ8 := Lib.hid (HR5.out.but HBB.out (by simp))
        have hpe := putErr_app (l := l) (m := m) (by omega)
        clear hr8 hb8
        by_cases h1 : putErr l = 0
        · by_cases h2 : putErr m = 0
          · have h3 : putErr (l ++ m) = 0 := by rw [hpe, if_pos ⟨h1, h2⟩]
            obtain ⟨hg1, hg2⟩ := get_put HLOK.out h1
            have hrl : (putRow l).length ≤ 16000 := by unfold putRow; rw [if_pos h1, enc_all]; omega
            have hrm : (putRow m).length ≤ 16000 := by unfold putRow; rw [if_pos h2, enc_all]; omega
            have hra := putRow_app (l := l) (m := m) (by omega) h1 h2
            have HRA := Lib.hid hra
            have HG2 := Lib.hid hg2
            have HGC := Lib.hid (get_c pa pc (putRow l) w8 (by have h := seesD_of HP8.out (putRow l).length (Nat.le_refl _); rwa [List.take_length] at h) (byteL_put HLOK.out) (by omega))
            rw [h1, h2, h3]
            clear h1 h2 h3 hpe hg2 hra
            go_wp2_with fail
            refine HGC.out.mono ?_
            rintro e w9 ⟨za, zn, zc, rfl, hr9, hb9⟩
            rw [hg1]
            rw [HG2.out] at hr9
            obtain ⟨za', zc', hzf⟩ := hr9.form
            simp only [Value.slice.injEq] at hzf
            obtain ⟨rfl, rfl, rfl⟩ := hzf
            have HR9 := Lib.hid hr9.sees
            have HB9 := Lib.hid (HB8.out.trans hb9 (by simp))
            have HP9 := Lib.hid (HP8.out.but hb9 (by simp))
            have HQ9 := Lib.hid (HQ8.out.but hb9 (by simp))
            have HA9 := Lib.hid (HR8.out.but hb9 (by simp))
            clear hr9 hb9 HGC hg1
            go_wp2_with fail
            refine (sameI _ _ l _ HR9.out (HLS.out.but HB9.out (by simp)) (by omega)).mono ?_
            rintro e w10 ⟨rfl, hb10⟩
            have HB10 := Lib.hid (HB9.out.trans hb10 (by simp))
            have HP10 := Lib.hid (HP9.out.but hb10 (by simp))
            have HQ10 := Lib.hid (HQ9.out.but hb10 (by simp))
            have HA10 := Lib.hid (HA9.out.but hb10 (by simp))
            have hul : (u8s (putRow l)).length = (putRow l).length := u8s_len _
            have hum : (u8s (putRow m)).length = (putRow m).length := u8s_len _
            have HS10 : Hid (Src Try.prog j0.size 25 (.slice qa (putRow m).length qc) (u8s (putRow m)).length (u8s (putRow m)) w10) := Lib.hid (src_sees (P := Try.prog) Try.underlying25 kz1 HQ10.out.sees (fun v hv => by simp only [u8s, List.mem_map] at hv; obtain ⟨n, _, rfl⟩ := hv; rfl))
            have KEY : Hid (∀ (v' : Value) (w11 : World), Appended w10 w11 5 (.slice pa (putRow l).length pc) v' (u8s (putRow l)) (u8s (putRow m)) → ∃ a3 n3 c3, v' = .slice a3 n3 c3 ∧ Sees w11 (.slice a3 n3 c3) (u8s (putRow (l ++ m))) ∧ Sees w11 (.slice ya (putRow (l ++ m)).length yc) (u8s (putRow (l ++ m))) ∧ But [] w w11) := Lib.hid fun v' w11 hap => by
              obtain ⟨k1, k2, k3, k4, k5⟩ := app_more HB10.out HPN.out hap
              obtain ⟨a3, c3, e⟩ := k1.form
              subst e
              refine ⟨a3, _, c3, rfl, ?_, ?_, k3⟩
              · have h := k1.sees
                rw [HRA.out, u8s_app]
                exact h
              · refine (HA10.out.but k4 (fun b hb hm => ?_)).sees
                have h1 := HA8.out b hb
                have h2 := HR45.out.lt (b := b) (by simpa using hm)
                omega
            have hal : (putRow (l ++ m)).length ≤ 1000000 := by rw [HRA.out, List.length_append]; omega
            clear hb10
            go_wp2_with (first
              | (at_builtin; refine wpList_append_row_g (by rfl) _ _ 25 (by rfl) 5 j0 (.int .u8 0) 1 Try.underlying25 ki kz0 kz1 kz2 rfl _ (u8s (putRow l)) (by rfl) HP10.out (u8s (putRow m)) _ (by rfl) HS10.out (by unfold maxLen; omega) (by omega) ?_; intro v' w11 hap; go_must (have h := KEY.out v' w11 hap); obtain ⟨a3, n3, c3, rfl, hs3, hsy, hb11⟩ := h; have HS3 := Lib.hid hs3; have HSY := Lib.hid hsy; have HB11 := Lib.hid hb11; clear hap hs3 hsy hb11))
            refine (same _ _ (putRow (l ++ m)) (putRow (l ++ m)) _ HSY.out HS3.out (by omega)).mono ?_
            rintro e w12 ⟨rfl, hb12⟩
            rw [show decide (putRow (l ++ m) = putRow (l ++ m)) = true by simp]
            have HB12 := Lib.hid (HB11.out.trans hb12 (by simp))
            clear hb12
            go_wp2_with fail
            go_ret
            exact ⟨rfl, HB12.out⟩
          · have h3 : putErr (l ++ m) = 21 := by rw [hpe, if_neg (fun h => h2 h.2)]
            have h4 : (putRow (l ++ m)).length = 0 := by unfold putRow; rw [if_neg (by rw [h3]; decide)]; rfl
            rw [h3, h4]
            have hm2 : (putErr m == 0) = false := by simpa using h2
            go_wp2_with fail
            go_ret
            exact ⟨rfl, HB8.out⟩
        · have h3 : putErr (l ++ m) = 21 := by rw [hpe, if_neg (fun h => h1 h.1)]
          have h4 : (putRow (l ++ m)).length = 0 := by unfold putRow; rw [if_neg (by rw [h3]; decide)]; rfl
          rw [h3, h4]
          have hm2 : (putErr l == 0) = false := by simpa using h1
          go_wp2_with fail
          go_ret
          exact ⟨rfl, HB8.out⟩
    · have h2' : ¬ (2000 : Int) < l.length + m.length := by omega
      have h3' : (16000 : Int) < bs.length := by omega
      go_wp2_with fail
      go_ret
      exact ⟨rfl, HB1.out⟩
  · have h2' : (2000 : Int) < l.length + m.length := by omega
    go_wp2_with fail
    go_ret
    exact ⟨rfl, HB1.out⟩
theorem codeBack_walk (w : World) (vl : Value) (l : List Ins) (vm : Value) (m : List Ins) (vb : Value) (bs : List Int) (hL : CameI w vl l) (hl : l.length ≤ 140737488355328) (hM : CameI w vm m) (hm : m.length ≤ 140737488355328) (hB : Sees w vb (u8s bs) ∧ ByteL bs) (hb : bs.length ≤ 140737488351232) :
    Calls Try.prog 5 #[vl, vm, vb] w fun e w' => e = .returned (.bool true) ∧ Below w.heap.size w w' :=
  (codeBack vl vm vb l m bs w hL hM hB hl hm hb).mono fun _ _ ⟨he, hb⟩ => ⟨he, hb.below (Nat.le_refl _) (by simp)⟩
end Go.Proofs.Ytddeckkcfcodbaa.M
