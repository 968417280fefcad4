/-
  'QueueLives' tells true: the walk.
-/
import Derived.Test.YtdobileefcidjaaQLivesP
import Derived.Test.YtdobileefcidjaaQueAwake
import Derived.Test.YtdobileefcidjaaPick
import Derived.Test.YtdobileefcidjaaLent
import Derived.Test.YtdobileefcidjaaKept
import Derived.Test.YtdobileefcidjaaOver
import Derived.Deep.DeepCutAuto
import Derived.Deep.CutBlock
import Derived.Deep.RegionHeld3
import Derived.Deep.DrawnRows
namespace Go.Proofs.Ytdobileefcidjaa.M
open Go.RowKit Go.Shelf
set_option linter.unusedVariables false
set_option linter.unusedSectionVars false
set_option linter.unusedSimpArgs false
attribute [local go_sem ↓] Go.wp_at_zero Go.wp_at_succ
set_option maxRecDepth 100000 in
set_option maxHeartbeats 8000000 in
theorem queueLives (k key val ent : Int) (v : Value) (l : List Deed) (w : World) (hk : (Lit.int .u8 k).wf = true) (hs : SeesDeeds w v l) (hl : l.length ≤ 3518437208780) :
    Calls Try.prog 3 #[.agg #[.int .u8 k, .int .i64 key, .int .i64 val, .int .i64 ent], v] w fun e w' => e = .returned (.bool true) ∧ But [] w w' := by
  obtain ⟨i0, hi, hz0, hz1, hz2⟩ := info_parts (show (Try.prog.info? 36).map (fun i => (i.zero, i.size, i.bytes)) = some (some (.slice none 0 0), 1, 24) by kernel_rfl)
  obtain ⟨a, c, rfl, hD⟩ := hs
  have HD := Lib.hid hD
  have HWF := Lib.hid hk
  have hbox := al_at w (.cells #[.int .u8 k, .int .i64 key, .int .i64 val, .int .i64 ent] 24)
  have HBOX := Lib.hid hbox
  have HB0 : Hid (But [] w (w.alloc (.cells #[.int .u8 k, .int .i64 key, .int .i64 val, .int .i64 ent] 24))) := Lib.hid ((But.refl _ _).alloc _)
  clear hD hk hbox
  go_enter Try.func3, Try.ntmps3
  go_wp2_with fail
  refine (great2 _ l _ ⟨a, c, rfl, fun i d h => (HD.out i d h).keep HB0.out⟩ hl).mono ?_
  rintro e w1 ⟨g, rfl, hgf, hb⟩
  have HBX1 := Lib.hid (hb.heap HBOX.out (by simp))
  have HB1 : Hid (But [] w w1) := Lib.hid (HB0.out.trans hb (by simp))
  clear hb HBOX HB0
  cases g with
  | true =>
    clear hgf
    go_wp2_with fail
    refine (awake _).mono ?_
    rintro e w2 ⟨rfl, hb⟩
    have HB2 : Hid (But [] w w2) := Lib.hid (HB1.out.trans hb (by simp))
    clear hb
    go_wp2_with fail
    go_ret
    exact ⟨rfl, HB2.out⟩
  | false =>
    have hl3 : l.length ≤ 400 := hgf rfl
    clear hgf
    have c0 : w1.cell? ⟨w.heap.size, 0, none⟩ = some (.int .u8 k) := cl_of HBX1.out 0
    have c1 : w1.cell? ⟨w.heap.size, 1, none⟩ = some (.int .i64 key) := cl_of HBX1.out 1
    have c2 : w1.cell? ⟨w.heap.size, 2, none⟩ = some (.int .i64 val) := cl_of HBX1.out 2
    have c3 : w1.cell? ⟨w.heap.size, 3, none⟩ = some (.int .i64 ent) := cl_of HBX1.out 3
    by_cases hE : specE k key val ent = 0
    · by_cases h56 : k = 5 ∨ k = 6
      · obtain ⟨stack, rfl⟩ : ∃ stack, k = kindOf stack := by
          rcases h56 with rfl | rfl
          · exact ⟨false, rfl⟩
          · exact ⟨true, rfl⟩
        obtain ⟨rfl, hv1, hv2, he1, he2⟩ := specE_queue hE
        have HSE := Lib.hid hE
        clear hE h56
        go_wp2_with fail
        refine (newBoth stack val ent _ HSE.out (fun b => w1.heap.size ≤ b) (fun b hb => hb)).mono ?_
        rintro e w2 ⟨Q, rfl, hS2, hb2⟩
        have hh := hb2.heap HBX1.out (by simp)
        have HB2 : Hid (But [] w w2) := Lib.hid (HB1.out.trans hb2 (by simp))
        have d0 : w2.cell? ⟨w.heap.size, 0, none⟩ = some (.int .u8 (kindOf stack)) := cl_of hh 0
        have d1 : w2.cell? ⟨w.heap.size, 1, none⟩ = some (.int .i64 0) := cl_of hh 1
        have d2 : w2.cell? ⟨w.heap.size, 2, none⟩ = some (.int .i64 val) := cl_of hh 2
        have d3 : w2.cell? ⟨w.heap.size, 3, none⟩ = some (.int .i64 ent) := cl_of hh 3
        have hzw2 := hb2.size
        have hz1' := HB1.out.size
        obtain ⟨base, hbase⟩ : ∃ base, base = w1.heap.size := ⟨_, rfl⟩
        rw [← hbase] at hS2 hzw2
        have hbw : w.heap.size ≤ base := by omega
        have HS2 := Lib.hid hS2
        clear hh hb2 hS2 c0 c1 c2 c3 HBX1 hbase
        go_wp2_with fail
        refine (refNewBoth stack val ent _ HSE.out (fun b => dye (dye (fun _ => 0) base 1) w2.heap.size 2 b = 2) (fun b hb => dye_new hb)).mono ?_
        rintro e w3 ⟨X, rfl, hR3, hb3⟩
        have HH0 : Hid (QHead w base Q X stack val ent 0 (.slice none 0 0) w3) := Lib.hid ⟨dye (dye (fun _ => 0) base 1) w2.heap.size 2, [], [], { hbase := hbw, low := (fun b hb => by rw [dye_old (by omega), dye_old hb]), queue := (HS2.out.also (fun b hb hk => by rw [dye_old hb, dye_new hk])).keep hb3 (by simp), ref := hR3, toldq := OwnQ.nil _ _, toldcol := (fun b hb => by cases hb), rows := (fun j v hv => by simp at hv), apart := (fun i j u v b hu => by simp at hu), but := HB2.out.trans hb3 (by simp) }, Nat.le_refl _, Nat.le_refl _, Nat.le_trans hzw2 hb3.size, (fun r hr => by cases hr)⟩
        clear hR3 hb3 HS2 HB2 d0 d1 d2 d3
        go_wp2_with fail
        go_loopw [9, 10] (fun told i wr => ∃ m : Nat, m ≤ l.length ∧ i = .int .i64 m ∧ QHead w base Q X stack val ent m told wr) (fun _ i _ => l.length - (intOf i).toNat)
        case atStart => exact ⟨0, Nat.zero_le _, rfl, HH0.out⟩
        case round =>
          obtain ⟨m, hm, rfl, col, rows, tv, hL, hrl0, htl0, hzr, hby⟩ := hrel
          obtain ⟨ta, tc, rfl⟩ := hL.toldq.form
          have HL := Lib.hid hL
          have HBY := Lib.hid hby
          clear hL hby HH0
          by_cases hlt : m < l.length
          · obtain ⟨d, hd⟩ : ∃ d, l[m]? = some d := ⟨_, List.getElem?_eq_getElem hlt⟩
            obtain ⟨b, o, rfl, g1, g2, g3, gw, g4, g5, g6⟩ := HD.out m d hd
            obtain ⟨t, s, xs, fl⟩ := d
            obtain ⟨a3, c3, e3⟩ := sl_of g4
            simp only at e3 g1 g2 g3 gw g4 g5 g6
            subst e3
            have HG1 := Lib.hid g1
            have HG2 := Lib.hid g2
            have HG3 := Lib.hid g3
            have HS := Lib.hid g4
            have HI := Lib.hid g5
            have HW := Lib.hid (lit_bounds gw)
            have hbr := HL.out.but
            have e2 : wr.cell? ⟨b, o + m * 3 + 1, none⟩ = some (.slice a3 xs.length c3) := cell_but hbr HG2.out (by simp)
            have hk0 : (0 : Int) ≤ m := by omega
            have hk1 : (m : Int) < l.length := by omega
            have HSr := Lib.hid (HS.out.but hbr (by simp))
            clear hd g1 g2 g3 g4 g5 gw hbr
            go_wp2_with fail
            refine (lent _ xs _ HSr.out HI.out (by omega)).mono ?_
            rintro e w4 ⟨inn, rfl, hin, hing, hb4⟩
            obtain ⟨g', hg'⟩ := hin.form
            subst hg'
            have hgg : g' = wr.heap.size := by simpa [Value.ownBlock] using hing
            obtain ⟨col4, hcol4⟩ : ∃ col4, col4 = dye col wr.heap.size 4 := ⟨_, rfl⟩
            have HL4 : Hid (QLives w base Q X stack val ent col4 (.slice ta tv.length tc) w4 rows rows tv) := Lib.hid (by rw [hcol4]; exact (HL.out.dyed hzr 4).new hb4)
            have hz4 : base ≤ w4.heap.size := Nat.le_trans hzr hb4.size
            have hcg : col4 g' = 4 := by rw [hcol4, hgg]; exact dye_new (Nat.le_refl _)
            have hgl : g' < w4.heap.size := by
              obtain ⟨cur, h1, _⟩ := hin.tag g' rfl
              exact lt_of h1
            have HGC5 : Hid (∀ b, (Value.slice (some ⟨g', 0, none⟩) xs.length (xs.length + 12)).ownBlock = some b → dye col4 w4.heap.size 1 b = 4) := Lib.hid fun b hb => by cases hb; rw [dye_old hgl]; exact hcg
            have HGC6 : Hid (∀ n, w4.heap.size ≤ n → ∀ b, (Value.slice (some ⟨g', 0, none⟩) xs.length (xs.length + 12)).ownBlock = some b → dye (dye col4 w4.heap.size 1) n 2 b = 4) := Lib.hid fun n hn b hb => by cases hb; rw [dye_old (Nat.lt_of_lt_of_le hgl hn), dye_old hgl]; exact hcg
            have HGQ : Hid (xs ≠ [] → ∀ b, (Value.slice (some ⟨g', 0, none⟩) xs.length (xs.length + 12)).ownBlock = some b → b ≠ Q) := Lib.hid fun _ b hb e => by cases hb; have := HL4.out.queue.okQ; subst e; have h2 : col4 g' = 1 := this; omega
            have HSX : Hid (xs ≠ [] → ∀ b, (Value.slice a3 xs.length c3).ownBlock = some b → b ≠ X) := Lib.hid fun hne b hb e => by
              have h1 := HL.out.ref.okX
              have h1' : col X = 2 := h1
              have hX : base ≤ X := by
                by_cases h : X < base
                · have := HL.out.low X h; omega
                · omega
              have hlt := sees_block_lt HS.out hne hb
              omega
            have HIN := Lib.hid hin
            have HLQ : Hid (QueueS w4 (fun b => dye col4 w4.heap.size 1 b = 1) Q stack val ent rows) := Lib.hid (HL4.out.dyed hz4 1).queue
            have e1 : w4.cell? ⟨b, o + m * 3, none⟩ = some (.int .i64 t) := cell_but HL4.out.but HG1.out (by simp)
            clear hin hing hb4 hgg hcol4 HL HSr e2
            go_wp2_with fail
            refine (pick t 4 _ (by omega) (by omega) HW.out.1 HW.out.2).mono ?_
            rintro e w4' ⟨rfl, rfl⟩
            obtain ⟨p, hp⟩ : ∃ p, p = t % 4 := ⟨_, rfl⟩
            rw [← hp]
            clear hp
            go_upto_block 2 with fail
            go_cut [9] (fun told' wx => QHead w base Q X stack val ent (m + 1) told' wx)
            case first =>
              by_cases hp2 : p = 2
              · subst hp2
                by_cases hne : rows = []
                · subst hne
                  go_wp2_with fail
                  refine (QueueS.popNone (HL4.out.queue)).mono ?_
                  rintro e w5 ⟨rfl, rfl⟩
                  go_wp2_with fail
                  refine (RefQ.popNone (HL4.out.ref)).mono ?_
                  rintro e w6 ⟨rfl, rfl⟩
                  go_wp2_with fail
                  refine (same_yes (.slice none 0 0) (.slice none 0 0) [] _ (.inl ⟨rfl, rfl⟩) (.inl ⟨rfl, rfl⟩) (by intro u hu; cases hu) (by decide)).mono ?_
                  rintro e w7 ⟨rfl, hb7⟩
                  have HL7 := Lib.hid (HL4.out.new hb7)
                  have HZ7 : Hid (base ≤ w7.heap.size) := Lib.hid (by have := hb7.size; omega)
                  have HV7 : Hid (OwnQ w7 5 (.slice none 0 0) []) := Lib.hid (.inl ⟨rfl, rfl⟩)
                  have HC7 : Hid (∀ b, (Value.slice none 0 0).ownBlock = some b → col4 b = 3) := Lib.hid (fun b hb => by cases hb)
                  have HA7 : Hid (∀ (j : Nat) (u : Value) (b : Nat), tv[j]? = some u → u.ownBlock = some b → (Value.slice none 0 0).ownBlock ≠ some b) := Lib.hid (fun j u b _ _ hb => by cases hb)
                  clear hb7
                  have HQ7 : Hid (OwnQ (w7.alloc (.cells #[Value.slice none 0 0] 36)) 36 (.slice ta tv.length tc) tv) := Lib.hid (HL7.out.toldq.but ((But.refl [] _).alloc _) (by simp))
                  have KEY : Hid (∀ (v' : Value) (w9 : World), Appended (w7.alloc (.cells #[Value.slice none 0 0] 36)) w9 36 (.slice ta tv.length tc) v' tv [Value.slice none 0 0] → ∃ a' c', v' = Value.slice a' (tv.length + 1) c' ∧ QHead w base Q X stack val ent (m + 1) v' w9) := Lib.hid fun v' w9 hap => HL7.out.join (by have := HZ7.out; omega) HV7.out (by simp) HC7.out HA7.out (by simp) (by omega) (fun r hr => by cases hr) hap
                  have HSRC := Lib.hid (src_one hz1 w7 none 0 0)
                  clear HL7 HV7 HC7 HA7 HZ7
                  go_wp2_with (at_builtin; refine wpList_append_row (by rfl) _ _ 35 (by rfl) 36 i0 (.slice none 0 0) 24 Try.underlying35 hi hz0 hz1 hz2 rfl _ tv (by rfl) HQ7.out [Value.slice none 0 0] _ (by rfl) HSRC.out (by unfold maxLen; have h0 : ∀ x : Value, [x].length = 1 := fun _ => rfl; rw [h0]; omega) (by have h0 : ∀ x : Value, [x].length = 1 := fun _ => rfl; rw [h0]; omega) ?_; intro v' w9 hap; obtain ⟨a9, c9, rfl, h9⟩ := KEY.out _ _ hap; have H9 := Lib.hid h9; clear hap h9)
                  go_meet
                  exact H9.out
                · obtain ⟨j, hj⟩ : ∃ j, j = nextAt stack rows.length := ⟨_, rfl⟩
                  have hjr : j < rows.length := by rw [hj]; exact nextAt_lt (by rcases rows with _ | _; exact absurd rfl hne; simp)
                  obtain ⟨r, hr⟩ : ∃ r, rows[j]? = some r := ⟨_, List.getElem?_eq_getElem hjr⟩
                  obtain ⟨hrb, hrv⟩ := HBY.out r (List.mem_of_getElem? hr)
                  have hrl : r.length ≤ 1024 := by omega
                  have HR := Lib.hid hr
                  have HJ := Lib.hid hj
                  have HRB := Lib.hid hrb
                  clear hr hj hrb hne
                  go_wp2_with fail
                  refine (HLQ.out.popX j r (by rw [← HJ.out]; exact HR.out) HJ.out (by omega) HRB.out (by omega) (fun b hb => dye_new hb)).mono ?_
                  rintro e w5 ⟨v5, rfl, ho5, hn5, HSX, hb5⟩
                  obtain ⟨a5, c5, rfl⟩ := own_form2 ho5
                  have hz5 := hb5.size
                  have HL5 : Hid (QLives w base Q X stack val ent (popCol col4 w4.heap.size (.slice a5 r.length c5)) (.slice ta tv.length tc) w5 (rows.eraseIdx j) rows tv) := Lib.hid (HL4.out.popTurn hz4 hn5 hb5 HSX)
                  have HV5 := Lib.hid ho5.que
                  have HN5 := Lib.hid hn5
                  clear ho5 hn5 hb5 HSX
                  go_wp2_with fail
                  refine (RefQ.pop (ok := fun b => dye (popCol col4 w4.heap.size (.slice a5 r.length c5)) w5.heap.size 2 b = 2) ((HL5.out.dyed (by omega) 2).ref) j r HR.out HJ.out (by omega) HRB.out (by omega) (fun b hb => dye_new hb)).mono ?_
                  rintro e w6 ⟨a6, c6, rfl, ho6, hn6, hR6, hb6⟩
                  have hX5 : dye (popCol col4 w4.heap.size (.slice a5 r.length c5)) w5.heap.size 2 X = 2 := (HL5.out.dyed (by omega) 2).ref.okX
                  have HL6 : Hid (QLives w base Q X stack val ent (dye (popCol col4 w4.heap.size (.slice a5 r.length c5)) w5.heap.size 2) (.slice ta tv.length tc) w6 (rows.eraseIdx j) (rows.eraseIdx j) tv) := Lib.hid ((HL5.out.dyed (by omega) 2).refTurn hb6 (fun x hx => by simp only [List.mem_singleton] at hx; subst hx; exact hX5) hR6)
                  have HV6 : Hid (OwnQ w6 5 (.slice a5 r.length c5) r) := Lib.hid (HV5.out.but hb6 (fun b hb hm => by
                    simp only [List.mem_singleton] at hm
                    subst hm
                    rw [dye_old (HV5.out.lt hb), popCol_own _ _ _ _ hb] at hX5
                    omega))
                  have HS6 := Lib.hid ho6.sees
                  have hz6 := hb6.size
                  clear ho6 hb6 hR6 hn6 hX5
                  go_wp2_with fail
                  refine (same_yes _ _ r _ HV6.out.sees HS6.out HRB.out (by omega)).mono ?_
                  rintro e w7 ⟨rfl, hb7⟩
                  have HL7 := Lib.hid (HL6.out.new hb7)
                  have HZ7 : Hid (base ≤ w7.heap.size) := Lib.hid (by have := hb7.size; omega)
                  have HV7 := Lib.hid (HV6.out.but hb7 (by simp))
                  have HC7 : Hid (∀ b, (Value.slice a5 r.length c5).ownBlock = some b → dye (popCol col4 w4.heap.size (.slice a5 r.length c5)) w5.heap.size 2 b = 3) := Lib.hid (fun b hb => by rw [dye_old (HV5.out.lt hb)]; exact popCol_own _ _ _ _ hb)
                  have HA7 : Hid (∀ (j : Nat) (u : Value) (b : Nat), tv[j]? = some u → u.ownBlock = some b → (Value.slice a5 r.length c5).ownBlock ≠ some b) := Lib.hid (fun j u b hu hb => HL4.out.popped HN5.out j u b hu hb)
                  clear hb7
                  have HQ7 : Hid (OwnQ (w7.alloc (.cells #[Value.slice a5 r.length c5] 36)) 36 (.slice ta tv.length tc) tv) := Lib.hid (HL7.out.toldq.but ((But.refl [] _).alloc _) (by simp))
                  have KEY : Hid (∀ (v' : Value) (w9 : World), Appended (w7.alloc (.cells #[Value.slice a5 r.length c5] 36)) w9 36 (.slice ta tv.length tc) v' tv [Value.slice a5 r.length c5] → ∃ a' c', v' = Value.slice a' (tv.length + 1) c' ∧ QHead w base Q X stack val ent (m + 1) v' w9) := Lib.hid fun v' w9 hap => HL7.out.join (by have := HZ7.out; omega) HV7.out (by omega) HC7.out HA7.out (by rw [List.length_eraseIdx_of_lt hjr]; omega) (by omega) (fun r hr => HBY.out r (List.mem_of_mem_eraseIdx hr)) hap
                  have HSRC := Lib.hid (src_one hz1 w7 a5 r.length c5)
                  clear HL7 HV7 HC7 HA7 HZ7
                  go_wp2_with (at_builtin; refine wpList_append_row (by rfl) _ _ 35 (by rfl) 36 i0 (.slice none 0 0) 24 Try.underlying35 hi hz0 hz1 hz2 rfl _ tv (by rfl) HQ7.out [Value.slice a5 r.length c5] _ (by rfl) HSRC.out (by unfold maxLen; have h0 : ∀ x : Value, [x].length = 1 := fun _ => rfl; rw [h0]; omega) (by have h0 : ∀ x : Value, [x].length = 1 := fun _ => rfl; rw [h0]; omega) ?_; intro v' w9 hap; obtain ⟨a9, c9, rfl, h9⟩ := KEY.out _ _ hap; have H9 := Lib.hid h9; clear hap h9)
                  go_meet
                  exact H9.out
              · by_cases hp3 : p = 3
                · subst hp3
                  clear hp2
                  by_cases hne : rows = []
                  · subst hne
                    go_wp2_with fail
                    refine (QueueS.peekNone (HL4.out.queue)).mono ?_
                    rintro e w5 ⟨rfl, rfl⟩
                    go_wp2_with fail
                    refine (RefQ.peekNone (HL4.out.ref)).mono ?_
                    rintro e w6 ⟨rfl, rfl⟩
                    go_wp2_with fail
                    refine (same_yes (.slice none 0 0) (.slice none 0 0) [] _ (.inl ⟨rfl, rfl⟩) (.inl ⟨rfl, rfl⟩) (by intro u hu; cases hu) (by decide)).mono ?_
                    rintro e w7 ⟨rfl, hb7⟩
                    have HL7 := Lib.hid (HL4.out.new hb7)
                    have HZ7 : Hid (base ≤ w7.heap.size) := Lib.hid (by have := hb7.size; omega)
                    have HV7 : Hid (OwnQ w7 5 (.slice none 0 0) []) := Lib.hid (.inl ⟨rfl, rfl⟩)
                    have HC7 : Hid (∀ b, (Value.slice none 0 0).ownBlock = some b → col4 b = 3) := Lib.hid (fun b hb => by cases hb)
                    have HA7 : Hid (∀ (j : Nat) (u : Value) (b : Nat), tv[j]? = some u → u.ownBlock = some b → (Value.slice none 0 0).ownBlock ≠ some b) := Lib.hid (fun j u b _ _ hb => by cases hb)
                    clear hb7
                    have HQ7 : Hid (OwnQ (w7.alloc (.cells #[Value.slice none 0 0] 36)) 36 (.slice ta tv.length tc) tv) := Lib.hid (HL7.out.toldq.but ((But.refl [] _).alloc _) (by simp))
                    have KEY : Hid (∀ (v' : Value) (w9 : World), Appended (w7.alloc (.cells #[Value.slice none 0 0] 36)) w9 36 (.slice ta tv.length tc) v' tv [Value.slice none 0 0] → ∃ a' c', v' = Value.slice a' (tv.length + 1) c' ∧ QHead w base Q X stack val ent (m + 1) v' w9) := Lib.hid fun v' w9 hap => HL7.out.join (by have := HZ7.out; omega) HV7.out (by simp) HC7.out HA7.out (by simp) (by omega) (fun r hr => by cases hr) hap
                    have HSRC := Lib.hid (src_one hz1 w7 none 0 0)
                    clear HL7 HV7 HC7 HA7 HZ7
                    go_wp2_with (at_builtin; refine wpList_append_row (by rfl) _ _ 35 (by rfl) 36 i0 (.slice none 0 0) 24 Try.underlying35 hi hz0 hz1 hz2 rfl _ tv (by rfl) HQ7.out [Value.slice none 0 0] _ (by rfl) HSRC.out (by unfold maxLen; have h0 : ∀ x : Value, [x].length = 1 := fun _ => rfl; rw [h0]; omega) (by have h0 : ∀ x : Value, [x].length = 1 := fun _ => rfl; rw [h0]; omega) ?_; intro v' w9 hap; obtain ⟨a9, c9, rfl, h9⟩ := KEY.out _ _ hap; have H9 := Lib.hid h9; clear hap h9)
                    go_meet
                    exact H9.out
                  · obtain ⟨j, hj⟩ : ∃ j, j = nextAt stack rows.length := ⟨_, rfl⟩
                    have hjr : j < rows.length := by rw [hj]; exact nextAt_lt (by rcases rows with _ | _; exact absurd rfl hne; simp)
                    obtain ⟨r, hr⟩ : ∃ r, rows[j]? = some r := ⟨_, List.getElem?_eq_getElem hjr⟩
                    obtain ⟨hrb, hrv⟩ := HBY.out r (List.mem_of_getElem? hr)
                    have hrl : r.length ≤ 1024 := by omega
                    have HR := Lib.hid hr
                    have HJ := Lib.hid hj
                    have HRB := Lib.hid hrb
                    clear hr hj hrb hne
                    go_wp2_with fail
                    have HSX := HL4
                    refine (HL4.out.queue.peek j r (by rw [← HJ.out]; exact HR.out) HJ.out (by omega) HRB.out (by omega)).mono ?_
                    rintro e w5 ⟨v5, rfl, ho5, hn5, hb5⟩
                    obtain ⟨a5, c5, rfl⟩ := own_form2 ho5
                    have hz5 := hb5.size
                    have HL5 : Hid (QLives w base Q X stack val ent (dye col4 w4.heap.size 3) (.slice ta tv.length tc) w5 rows rows tv) := Lib.hid ((HL4.out.dyed hz4 3).new hb5)
                    have HV5 := Lib.hid ho5.que
                    have HN5 := Lib.hid hn5
                    clear ho5 hn5 hb5 HSX
                    go_wp2_with fail
                    refine (RefQ.peek HL5.out.ref j r HR.out HJ.out (by omega) HRB.out (by omega)).mono ?_
                    rintro e w6 ⟨a6, c6, rfl, ho6, hn6, hb6⟩
                    have HL6 : Hid (QLives w base Q X stack val ent (dye col4 w4.heap.size 3) (.slice ta tv.length tc) w6 rows rows tv) := Lib.hid (HL5.out.new hb6)
                    have HV6 : Hid (OwnQ w6 5 (.slice a5 r.length c5) r) := Lib.hid (HV5.out.but hb6 (by simp))
                    have HS6 := Lib.hid ho6.sees
                    have hz6 := hb6.size
                    clear ho6 hb6 hn6
                    go_wp2_with fail
                    refine (same_yes _ _ r _ HV6.out.sees HS6.out HRB.out (by omega)).mono ?_
                    rintro e w7 ⟨rfl, hb7⟩
                    have HL7 := Lib.hid (HL6.out.new hb7)
                    have HZ7 : Hid (base ≤ w7.heap.size) := Lib.hid (by have := hb7.size; omega)
                    have HV7 := Lib.hid (HV6.out.but hb7 (by simp))
                    have HC7 : Hid (∀ b, (Value.slice a5 r.length c5).ownBlock = some b → dye col4 w4.heap.size 3 b = 3) := Lib.hid (fun b hb => dye_new (HN5.out b hb))
                    have HA7 : Hid (∀ (j : Nat) (u : Value) (b : Nat), tv[j]? = some u → u.ownBlock = some b → (Value.slice a5 r.length c5).ownBlock ≠ some b) := Lib.hid (fun j u b hu hb => HL4.out.popped HN5.out j u b hu hb)
                    clear hb7
                    have HQ7 : Hid (OwnQ (w7.alloc (.cells #[Value.slice a5 r.length c5] 36)) 36 (.slice ta tv.length tc) tv) := Lib.hid (HL7.out.toldq.but ((But.refl [] _).alloc _) (by simp))
                    have KEY : Hid (∀ (v' : Value) (w9 : World), Appended (w7.alloc (.cells #[Value.slice a5 r.length c5] 36)) w9 36 (.slice ta tv.length tc) v' tv [Value.slice a5 r.length c5] → ∃ a' c', v' = Value.slice a' (tv.length + 1) c' ∧ QHead w base Q X stack val ent (m + 1) v' w9) := Lib.hid fun v' w9 hap => HL7.out.join (by have := HZ7.out; omega) HV7.out (by omega) HC7.out HA7.out (by omega) (by omega) HBY.out hap
                    have HSRC := Lib.hid (src_one hz1 w7 a5 r.length c5)
                    clear HL7 HV7 HC7 HA7 HZ7
                    go_wp2_with (at_builtin; refine wpList_append_row (by rfl) _ _ 35 (by rfl) 36 i0 (.slice none 0 0) 24 Try.underlying35 hi hz0 hz1 hz2 rfl _ tv (by rfl) HQ7.out [Value.slice a5 r.length c5] _ (by rfl) HSRC.out (by unfold maxLen; have h0 : ∀ x : Value, [x].length = 1 := fun _ => rfl; rw [h0]; omega) (by have h0 : ∀ x : Value, [x].length = 1 := fun _ => rfl; rw [h0]; omega) ?_; intro v' w9 hap; obtain ⟨a9, c9, rfl, h9⟩ := KEY.out _ _ hap; have H9 := Lib.hid h9; clear hap h9)
                    go_meet
                    exact H9.out
                · have hp2' : (p == 2) = false := by simpa using hp2
                  have hp3' : (p == 3) = false := by simpa using hp3
                  clear hp2 hp3
                  obtain ⟨E, hE⟩ : ∃ E, pushE val ent rows xs fl = E := ⟨_, rfl⟩
                  have HE := Lib.hid hE
                  have HCC : Hid (∀ wx, But [] w wx → wx.cell? ⟨b, o + m * 3 + 1, none⟩ = some (.slice a3 xs.length c3) ∧ wx.cell? ⟨b, o + m * 3 + 2, none⟩ = some (.int .u64 fl)) := Lib.hid fun wx hb => ⟨cell_but hb HG2.out (by simp), cell_but hb HG3.out (by simp)⟩
                  have e23 := HCC.out w4 HL4.out.but
                  have hle0 : (0 : Int) ≤ m := by omega
                  clear hE
                  go_wp2_with fail
                  go_region_held3 (fun w' => w'.cell? ⟨b, o + m * 3 + 1, none⟩ = some (.slice a3 xs.length c3) ∧ w'.cell? ⟨b, o + m * 3 + 2, none⟩ = some (.int .u64 fl)) (first | assumption | go_keep) (first
                    | (go_at_call 20; refine (kept _ _ xs _ HI6.out (HS.out.but HL6.out.but (by simp)) HI.out (by omega)).mono ?_; rintro e w7 ⟨rfl, hb7⟩; have HB7 := Lib.hid hb7; have e7 := HCC.out w7 (HL6.out.new hb7).but; clear hb7)
                    | (go_at_call 19; refine (RefQ.pushAll (ok := fun b => dye (dye col4 w4.heap.size 1) w5.heap.size 2 b = 2) ((HL5.out.dyed (by omega) 2).ref) fl (HS.out.but HL5.out.but (by simp)) (HSX.out) HI.out hv1 hv2 he1 (by omega) (fun b hb => dye_new hb) HE.out).mono ?_; rintro e w6 ⟨rfl, hR6, L6, hL6, hb6⟩; have h6 := (HL5.out.dyed (by omega) 2).refTurn hb6 hL6 hR6; have HL6 := Lib.hid h6; have HI6 : Hid (Lent w6 (.slice (some ⟨g', 0, none⟩) xs.length (xs.length + 12)) xs) := Lib.hid (HI5.out.turn (col := dye (dye col4 w4.heap.size 1) w5.heap.size 2) (HGC6.out _ hz5) hb6 hL6 (by decide)); have hz6 := hb6.size; have e6 := HCC.out w6 HL6.out.but; clear hR6 hL6 hb6 h6)
                    | (go_at_call 18; refine (QueueS.pushAll (w := w4.drew) (ok := fun b => dye col4 w4.heap.size 1 b = 1) (((HL4.out.dyed hz4 1).new ((But.refl [] w4).drew)).queue) fl (HIN.out.sees.but ((But.refl [] w4).drew) (by simp)) HGQ.out HI.out hv1 hv2 he1 (by omega) (fun b hb => dye_new hb) HE.out).mono ?_; rintro e w5 ⟨rfl, hQ5, L5, hL5, hb5⟩; have h5 := (((HL4.out.dyed hz4 1).new ((But.refl [] w4).drew)).queueTurn hb5 hL5 hQ5); have HL5 := Lib.hid h5; have HI5 : Hid (Lent w5 (.slice (some ⟨g', 0, none⟩) xs.length (xs.length + 12)) xs) := Lib.hid ((HIN.out.but ((But.refl [] w4).drew) (by simp)).turn (col := dye col4 w4.heap.size 1) HGC5.out hb5 hL5 (by decide)); have hz5 : w4.heap.size ≤ w5.heap.size := hb5.size; have e5 := HCC.out w5 HL5.out.but; clear hQ5 hL5 hb5 h5))
                  go_wp2_with fail
                  refine (over_lent (HI6.out.but HB7.out (by simp)) (by omega)).mono ?_
                  rintro e w8 ⟨rfl, hb8⟩
                  have HH : Hid (QHead w base Q X stack val ent (m + 1) (.slice ta tv.length tc) w8) := Lib.hid ⟨_, pushR val ent rows xs fl, tv, (HL6.out.new HB7.out).lentTurn hb8 (fun x hx => HGC6.out _ hz5 x (by simpa using hx)), (by have := pushR_len val ent rows xs fl; omega), by omega, (by have := HB7.out.size; have := hb8.size; omega), pushR_all HBY.out HI.out⟩
                  clear hb8
                  go_wp2_with fail
                  go_meet
                  exact HH.out
            case rest =>
              obtain ⟨col', rows', tv', hL', hrl', htl', hzc, hby'⟩ := hcut
              obtain ⟨ta', tc', rfl⟩ := hL'.toldq.form
              have HL' := Lib.hid hL'
              have HBY' := Lib.hid hby'
              have hR' := hL'.ref
              obtain ⟨hB', a0, c0', vals', h1', h2', h3', _⟩ := hR'
              rw [h3'] at h1'
              have x4 : wc.cell? ⟨X, 4, none⟩ = some (.slice a0 rows'.length c0') := cl_of h1' 4
              clear hL' hby' h1' h2' h3' hB'
              go_wp2_with fail
              go_region_held3 (fun w' => w'.cell? ⟨X, 4, none⟩ = some (.slice a0 rows'.length c0')) (first | assumption | go_keep) (first
                | (go_at_call 22; refine (QueueS.many (w := wc.drew) ((HL'.out.new ((But.refl [] wc).drew)).queue)).mono ?_; rintro e w5 ⟨rfl, rfl⟩))
              go_wp2_with fail
              have HH1 : Hid (QHead w base Q X stack val ent (m + 1) (.slice ta' tv'.length tc') wc.drew) := Lib.hid ⟨col', rows', tv', HL'.out.new ((But.refl [] wc).drew), hrl', htl', hzc, HBY'.out⟩
              go_roundw
              case rel => exact ⟨m + 1, by omega, by go_num, HH1.out⟩
              case measure => simp [intOf]; omega
          · obtain rfl : m = l.length := by omega
            have HAP : Hid (ApartV tv) := Lib.hid HL.out.apart
            have pick : ∀ k : Nat, ∃ n : Nat, ∀ v : Value, tv[k]? = some v → (∃ xs, OwnQ wr 5 v xs ∧ xs.length = n) ∧ n ≤ 1000000000000 := fun k => by
              cases hv : tv[k]? with
              | none => exact ⟨0, fun v h => by cases h⟩
              | some v =>
                obtain ⟨xs, h1, h2, _⟩ := HL.out.rows k v hv
                exact ⟨xs.length, fun u hu => by cases hu; exact ⟨⟨xs, h1, rfl⟩, by omega⟩⟩
            obtain ⟨nn, hnn⟩ := Classical.axiomOfChoice pick
            have HNN : Hid (∀ (k : Nat) (v : Value), tv[k]? = some v → (∃ xs, OwnQ wr 5 v xs ∧ xs.length = nn k) ∧ nn k ≤ 1000000000000) := Lib.hid fun k v hv => hnn k v hv
            clear pick hnn
            go_wp2_with fail
            refine (apartBytes _ tv nn _ HL.out.toldq.sees HAP.out HNN.out (by omega)).mono ?_
            rintro e w5 ⟨rfl, hb5⟩
            have HB5 : Hid (But [] w w5) := Lib.hid (HL.out.but.trans hb5 (fun x hx => .inr (by
              obtain ⟨j, u, hu, hub⟩ := of_blks hx
              obtain ⟨_, _, _, h3⟩ := HL.out.rows j u hu
              have h3' := h3 x hub
              by_cases hxb : x < base
              · have := HL.out.low x hxb; omega
              · omega)))
            clear hb5
            go_wp2_with fail
            refine (awake _).mono ?_
            rintro e w6 ⟨rfl, hb⟩
            have HB6 : Hid (But [] w w6) := Lib.hid (HB5.out.trans hb (by simp))
            clear hb
            go_wp2_with fail
            go_ret
            exact ⟨rfl, HB6.out⟩
      · have HE := Lib.hid hE
        have h5' : (k == 5) = false := by simp only [beq_eq_false_iff_ne, ne_eq]; exact fun h => h56 (.inl h)
        have h6' : (k == 6) = false := by simp only [beq_eq_false_iff_ne, ne_eq]; exact fun h => h56 (.inr h)
        clear hE h56
        go_wp2_with fail
        refine (newKind k key val ent _ HWF.out HE.out h5' h6').mono ?_
        rintro e w2 ⟨rfl, hb2⟩
        have hh := hb2.heap HBX1.out (by simp)
        have HB2 : Hid (But [] w w2) := Lib.hid (HB1.out.trans hb2 (by simp))
        have d0 : w2.cell? ⟨w.heap.size, 0, none⟩ = some (.int .u8 k) := cl_of hh 0
        have d1 : w2.cell? ⟨w.heap.size, 1, none⟩ = some (.int .i64 key) := cl_of hh 1
        have d2 : w2.cell? ⟨w.heap.size, 2, none⟩ = some (.int .i64 val) := cl_of hh 2
        have d3 : w2.cell? ⟨w.heap.size, 3, none⟩ = some (.int .i64 ent) := cl_of hh 3
        clear hh hb2 c0 c1 c2 c3 HBX1
        go_wp2_with fail
        refine (refNewKind k key val ent _ HE.out h5' h6').mono ?_
        rintro e w3 ⟨rfl, hb3⟩
        have HB3 : Hid (But [] w w3) := Lib.hid (HB2.out.trans hb3 (by simp))
        clear hb3
        go_wp2_with fail
        refine (awake _).mono ?_
        rintro e w4 ⟨rfl, hb⟩
        have HB4 : Hid (But [] w w4) := Lib.hid (HB3.out.trans hb (by simp))
        clear hb
        go_wp2_with fail
        go_ret
        exact ⟨rfl, HB4.out⟩
    · obtain ⟨E, hEE⟩ : ∃ E, specE k key val ent = E := ⟨_, rfl⟩
      rw [hEE] at hE
      have h0 : (E == 0) = false := by simpa using hE
      have h0' : (E != E) = false := by simp
      have HE := Lib.hid hEE
      clear hE hEE
      go_wp2_with fail
      refine (newErr k key val ent E _ HWF.out HE.out h0).mono ?_
      rintro e w2 ⟨rfl, hb2⟩
      have hh := hb2.heap HBX1.out (by simp)
      have HB2 : Hid (But [] w w2) := Lib.hid (HB1.out.trans hb2 (by simp))
      have d0 : w2.cell? ⟨w.heap.size, 0, none⟩ = some (.int .u8 k) := cl_of hh 0
      have d1 : w2.cell? ⟨w.heap.size, 1, none⟩ = some (.int .i64 key) := cl_of hh 1
      have d2 : w2.cell? ⟨w.heap.size, 2, none⟩ = some (.int .i64 val) := cl_of hh 2
      have d3 : w2.cell? ⟨w.heap.size, 3, none⟩ = some (.int .i64 ent) := cl_of hh 3
      clear hh hb2 c0 c1 c2 c3 HBX1
      go_wp2_with fail
      refine (refNewErr k key val ent E _ HE.out h0).mono ?_
      rintro e w3 ⟨rfl, hb3⟩
      have HB3 : Hid (But [] w w3) := Lib.hid (HB2.out.trans hb3 (by simp))
      clear hb3
      go_wp2_with fail
      refine (awake _).mono ?_
      rintro e w4 ⟨rfl, hb⟩
      have HB4 : Hid (But [] w w4) := Lib.hid (HB3.out.trans hb (by simp))
      clear hb
      go_wp2_with fail
      go_ret
      exact ⟨rfl, HB4.out⟩
theorem queueLives_walk (w : World) (s : MSpec) (v : Value) (l : List Deed) (hw : (Lit.int .u8 s.k).wf = true ∧ (Lit.int .i64 s.key).wf = true ∧ (Lit.int .i64 s.val).wf = true ∧ (Lit.int .i64 s.ent).wf = true) (hs : SeesDeeds w v l) (hl : l.length ≤ 3518437208780) :
    Calls Try.prog 3 #[s.v, v] w fun e w' => e = .returned (.bool true) ∧ Below w.heap.size w w' :=
  (queueLives s.k s.key s.val s.ent v l w hw.1 hs hl).mono fun _ _ ⟨he, hb⟩ => ⟨he, hb.below (Nat.le_refl _) (by simp)⟩
end Go.Proofs.Ytdobileefcidjaa.M
