/-
  'RingOrder' tells true: the walk.
-/
import Derived.Test.YtlajffbjkgedhaaOrder
namespace Go.Proofs.Ytlajffbjkgedhaa.M
open Go.RowKit
set_option linter.unusedVariables false
set_option linter.unusedSectionVars false
set_option linter.unusedSimpArgs false
theorem sl_of {w : World} {s : Value} {xs : List Value} (h : Sees w s xs) : ∃ a c, s = .slice a xs.length c := by
  obtain ⟨a, c, e, _⟩ := sees_shape h
  exact ⟨a, c, e⟩
set_option maxRecDepth 100000 in
set_option maxHeartbeats 4000000 in
theorem ringOrder (room : Int) (v : Value) (l : List Deed) (w : World) (hr1 : -9223372036854775808 ≤ room) (hr2 : room ≤ 9223372036854775807) (hs : SeesDeeds w v l) (hl : l.length ≤ 4398046510976) :
    Calls Try.prog 6 #[.int .i64 room, v] w fun e w' => e = .returned (.bool true) ∧ But [] w w' := by
  obtain ⟨i0, hi, hz0, hz1, hz2⟩ := info_parts (show (Try.prog.info? 36).map (fun i => (i.zero, i.size, i.bytes)) = some (some (.slice none 0 0), 1, 24) by kernel_rfl)
  obtain ⟨a, c, rfl, hD⟩ := hs
  have HD := Lib.hid hD
  have HR1 := Lib.hid hr1
  have HR2 := Lib.hid hr2
  clear hD hr1 hr2
  go_enter Try.func6, Try.ntmps6
  go_wp2_with fail
  refine (awake _).mono ?_
  rintro e w1 ⟨rfl, hb1⟩
  have HB1 := Lib.hid hb1
  clear hb1
  go_wp2_with fail
  refine (great _ l w1 ⟨a, c, rfl, fun i d h => (HD.out i d h).keep HB1.out⟩ hl).mono ?_
  rintro e w2 ⟨g, rfl, hb⟩
  have HB2 : Hid (But [] w w2) := Lib.hid (HB1.out.trans hb (by simp))
  clear hb HB1
  cases g with
  | true =>
    go_wp2_with fail
    go_ret
    exact ⟨rfl, HB2.out⟩
  | false =>
    go_wp2_with fail
    refine (pick room 1000 _ (by omega) (by omega) HR1.out HR2.out).mono ?_
    rintro e w2' ⟨rfl, rfl⟩
    obtain ⟨m, hm⟩ : ∃ m, m = room % 1000 := ⟨_, rfl⟩
    have hm0 : 0 ≤ m := by omega
    have hm1 : m < 1000 := by omega
    rw [← hm]
    clear hm
    go_wp2_with fail
    refine (new7 (16 + m) _ (by omega) (by omega)).mono ?_
    rintro e w3 ⟨R, rfl, hS, hb⟩
    obtain ⟨base, hbase⟩ : ∃ base, base = w2.heap.size := ⟨_, rfl⟩
    rw [← hbase] at hS
    have hbw : w.heap.size ≤ base := by rw [hbase]; exact HB2.out.size
    clear hbase
    have HO : Hid (OrdS w base R (16 + m) 0 (.slice none 0 0) (.int .i64 (16 + m)) w3 [] []) := Lib.hid ⟨hS, by simp [used]; omega, by simp [used], OwnQ.nil _ _, rfl, Nat.le_refl _, (fun j v x h => by simp at h), (fun k h => by cases h), HB2.out.trans hb (by simp)⟩
    clear hS hb HB2
    go_wp2_with fail
    go_loopw [8, 9, 10] (fun all left i wr => ∃ k : Nat, k ≤ l.length ∧ i = .int .i64 k ∧ ∃ ls vals, OrdS w base R (16 + m) k all left wr ls vals) (fun _ _ i _ => l.length - (intOf i).toNat)
    case atStart => exact ⟨0, Nat.zero_le _, rfl, [], [], HO.out⟩
    case round =>
      obtain ⟨k, hk, rfl, ls, vals, hO⟩ := hrel
      clear HO
      obtain ⟨aq, cq, rfl⟩ := hO.2.2.2.1.form
      obtain rfl := hO.2.2.1
      have HO := Lib.hid hO
      have hu := hO.2.1
      have hu0 := used_nonneg ls
      clear hO
      by_cases hlt : k < l.length
      · obtain ⟨d, hd⟩ : ∃ d, l[k]? = some d := ⟨_, List.getElem?_eq_getElem hlt⟩
        obtain ⟨b, o, rfl, g1, g2, g3, g4, g5⟩ := HD.out k d hd
        obtain ⟨t, s, xs⟩ := d
        obtain ⟨a3, c3, e3⟩ := sl_of g3
        simp only at e3 g1 g2 g3 g4 g5
        subst e3
        have HG1 := Lib.hid g1
        have HG2 := Lib.hid g2
        have HS := Lib.hid g3
        have HI := Lib.hid g4
        have hbr := HO.out.2.2.2.2.2.2.2.2
        have c1 : wr.cell? ⟨b, o + k * 2, none⟩ = some (.bool t) := cell_but hbr HG1.out (by simp)
        have c2 : wr.cell? ⟨b, o + k * 2 + 1, none⟩ = some (.slice a3 xs.length c3) := cell_but hbr HG2.out (by simp)
        have HBR := Lib.hid hbr
        clear hd g1 g2 g3 g4 hbr
        have hk0 : (0 : Int) ≤ k := by omega
        have hk1 : (k : Int) < l.length := by omega
        cases t with
        | false =>
          by_cases hf : 8 + (xs.length : Int) + used ls ≤ 16 + m
          · have hf' : (xs.length : Int) + 8 ≤ 16 + m - used ls := by omega
            have hf'' : decide ((xs.length : Int) + 8 ≤ 16 + m - used ls) = true := by simpa using hf'
            go_wp2_with fail
            refine (ringPut_ok (base := base) (n := 16 + m) (ls := ls) (xs := xs) HO.out.1 (by omega) (by omega) hu (HS.out.but HBR.out (by simp)) HI.out (by omega) hf).mono ?_
            rintro e w4 ⟨rfl, ⟨zb, zs, zx⟩, hz, hzn, hS4, hb4⟩
            replace hz : xs = zx := hz.symm
            subst hz
            have hR4 := HO.out.1
            have hb14 : But [] w w4 := HBR.out.trans hb4 (fun x hx => .inr (by have := hR4.tops x hx; omega))
            have c2 : w4.cell? ⟨b, o + k * 2 + 1, none⟩ = some (.slice a3 xs.length c3) := cell_but hb14 HG2.out (by simp)
            have HS4 := Lib.hid hS4
            have HB4 := Lib.hid hb4
            have hQ4 : OwnQ (w4.alloc (.cells #[.slice a3 xs.length c3] 36)) 36 (.slice aq vals.length cq) vals := (HO.out.2.2.2.1.but hb4 (HO.out.2.2.2.1.apart HO.out.1)).but ((But.refl [] _).alloc _) (by simp)
            have hv6 := HO.out.2.2.2.2.2.1
            have HQ4 := Lib.hid hQ4
            have HB14 := Lib.hid hb14
            clear hzn hS4 hb4 hR4 hb14 hQ4 c1
            have key : ∀ (v' : Value) (w5 : World), OwnQ w5 36 v' (vals ++ [.slice a3 xs.length c3]) → (w4.alloc (.cells #[.slice a3 xs.length c3] 36)).grownBy w5 (Value.slice aq vals.length cq).ownBlock → (v'.ownBlock = (Value.slice aq vals.length cq).ownBlock ∨ v'.ownBlock = some (w4.alloc (.cells #[.slice a3 xs.length c3] 36)).heap.size) →
                ∃ av cv, v' = Value.slice av (vals ++ [Value.slice a3 xs.length c3]).length cv ∧ OrdS w base R (16 + m) (k + 1) v' (.int .i64 (16 + m - used ls - 8 - xs.length)) w5 (ls ++ [⟨zb, zs, xs⟩]) (vals ++ [.slice a3 xs.length c3]) := fun v' w5 hown hgrow hat => by
              obtain ⟨av, cv, e⟩ := hown.form
              exact ⟨av, cv, e, ordS_put (z := ⟨zb, zs, xs⟩) HO.out hbw HS4.out HB4.out hf HS.out HI.out (show xs.length ≤ 1000000 by omega) hown hgrow (by rw [size_alloc] at hat; exact hat)⟩
            have KEY := Lib.hid key
            clear key
            go_wp2_with (at_builtin; refine wpList_append_que rfl _ _ 35 rfl 36 i0 (.slice none 0 0) 24 Try.underlying35 hi hz0 hz1 hz2 rfl _ vals rfl HQ4.out ⟨w4.heap.size, 0, none⟩ 1 (.slice a3 xs.length c3) rfl (cell_new_l _ _ _).1 rfl (by unfold maxLen; omega) (by omega) ?_; intro v' w5 hown hgrow hat; obtain ⟨av, cv, rfl, hO5⟩ := KEY.out _ _ hown hgrow hat; have HO5 := Lib.hid hO5; have c5 : w5.cell? ⟨b, o + k * 2 + 1, none⟩ = some (.slice a3 xs.length c3) := cell_but HO5.out.2.2.2.2.2.2.2.2 HG2.out (by simp); clear hown hgrow hat hO5)
            go_roundw
            case rel => exact ⟨k + 1, by omega, by go_num, _, _, (by have h := HO5.out; simp only [List.length_append, List.length_cons, List.length_nil, Nat.zero_add] at h; exact h)⟩
            case measure => simp [intOf]; omega
          · by_cases hlong : 65536 < xs.length
            · have hf'' : decide ((xs.length : Int) + 8 ≤ 16 + m - used ls) = false := by simp; omega
              go_wp2_with fail
              refine (ringPut_long (base := base) (n := 16 + m) (ls := ls) HO.out.1 (by omega) _ _ _ hlong (by omega)).mono ?_
              rintro e w4 ⟨rfl, hb4⟩
              have c2 : w4.cell? ⟨b, o + k * 2 + 1, none⟩ = some (.slice a3 xs.length c3) := cell_but hb4 c2 (by simp)
              have HB4 := Lib.hid hb4
              clear hb4
              go_wp2_with fail
              go_roundw
              case rel => exact ⟨k + 1, by omega, by go_num, _, _, ordS_new HO.out HB4.out (by omega)⟩
              case measure => simp [intOf]; omega
            · have hf'' : decide ((xs.length : Int) + 8 ≤ 16 + m - used ls) = false := by simp; omega
              go_wp2_with fail
              refine (ringPut_full (base := base) (n := 16 + m) (ls := ls) HO.out.1 (by omega) (by omega) hu _ _ _ (by omega) (by omega)).mono ?_
              rintro e w4 ⟨rfl, hb4⟩
              have c2 : w4.cell? ⟨b, o + k * 2 + 1, none⟩ = some (.slice a3 xs.length c3) := cell_but hb4 c2 (by simp)
              have HB4 := Lib.hid hb4
              clear hb4
              go_wp2_with fail
              go_roundw
              case rel => exact ⟨k + 1, by omega, by go_num, _, _, ordS_new HO.out HB4.out (by omega)⟩
              case measure => simp [intOf]; omega
        | true =>
          cases ls with
          | nil =>
            obtain rfl : vals = [] := List.eq_nil_of_length_eq_zero (by rw [HO.out.2.2.2.2.1]; rfl)
            go_wp2_with fail
            refine (HO.out.1.takesNone (by omega)).mono ?_
            rintro e w4 ⟨rfl, rfl⟩
            go_wp2_with fail
            go_roundw
            case rel => exact ⟨k + 1, by omega, by go_num, _, _, ordS_new HO.out (But.refl _ _) (by omega)⟩
            case measure => simp [intOf]; omega
          | cons x ls =>
            obtain ⟨v0, vals, rfl⟩ : ∃ v0 vs, vals = v0 :: vs := by
              cases vals with
              | nil => have := HO.out.2.2.2.2.1; simp at this
              | cons v0 vs => exact ⟨v0, vs, rfl⟩
            have hO := HO.out
            obtain ⟨h1, h2, h3, h4, h5, h6, h7, h8, h9⟩ := hO
            obtain ⟨hse, hib, hbl⟩ := h7 0 v0 x rfl rfl
            obtain ⟨a0, c0, e0⟩ := sl_of hse
            obtain ⟨ax, cx, ex⟩ := own_form h1.links.2.1
            have hur := used_cons x ls
            have HU := Lib.hid hur
            have hu1 := used_nonneg ls
            have hxl : (x.bs.length : Int) ≤ 1000000 := by omega
            have hu2 : used (x :: ls) = 8 + x.bs.length + used ls := hur
            have hu3 : 0 ≤ 16 + m - used (x :: ls) ∧ 16 + m - used (x :: ls) + 8 + x.bs.length ≤ 2000000 := ⟨by omega, by omega⟩
            obtain ⟨hu4, hu5⟩ := hu3
            rcases h4 with ⟨h40, _⟩ | ⟨g, oq, cap, cur, h40, hg, hc, hm', hs', hx⟩
            · cases h40
            · simp only [Value.slice.injEq, true_and] at h40
              obtain ⟨rfl, rfl⟩ := h40
              have hQ : OwnQ wr 36 (.slice (some ⟨g, oq, none⟩) (v0 :: vals).length cq) (v0 :: vals) := .inr ⟨g, oq, cq, cur, rfl, hg, hc, hm', hs', hx⟩
              have hcap : 1 ≤ cq := by simp at hc; omega
              have hne : g ≠ R := fun e => by
                have := hQ.apart h1 g rfl
                exact this (by rw [e]; exact List.mem_cons_self ..)
              have HH : Hid (wr.heap[g]? = some (.cells cur 36 (0, 0))) := Lib.hid hg
              have hcur : cur[oq]? = some v0 := hx 0 v0 rfl
              have HCUR := Lib.hid hcur
              have HQ := Lib.hid hQ
              have HSE := Lib.hid hse
              have HIB := Lib.hid hib
              have HB9 := Lib.hid h9
              have HEX := Lib.hid ex
              have h8' : base ≤ g := h8 g rfl
              clear h1 h2 h3 h5 h6 h7 h8 h9 hse hib hbl hg hc hm' hs' hx hQ hcur hur hu2 ex
              subst e0
              go_wp2_with fail
              refine (calls_val (HO.out.1.takes (by omega)) (v' := .tuple #[.slice ax x.bs.length cx, .int .i64 0]) (by rw [HEX.out])).mono ?_
              rintro e w4 ⟨rfl, hS4, hb4, ho4⟩
              have hc4 : w4.cell? ⟨g, oq, none⟩ = some (.slice a0 x.bs.length c0) := cell_but hb4 ((cell_of HH.out oq).trans HCUR.out) (by simpa using hne)
              have HS4 := Lib.hid hS4
              have HB4 := Lib.hid hb4
              have HO4 : Hid (Sees w4 (.slice ax x.bs.length cx) x.bs) := Lib.hid (by rw [← HEX.out]; exact ho4.sees)
              have HQ4 : Hid (OwnQ w4 36 (.slice (some ⟨g, oq, none⟩) (.slice a0 x.bs.length c0 :: vals).length cq) (.slice a0 x.bs.length c0 :: vals)) := Lib.hid (HQ.out.but hb4 (by intro k hk; cases hk; simpa using hne))
              have hbR : w.heap.size ≤ R := Nat.le_trans hbw HO.out.1.hbase
              have HB94 : Hid (But [] w w4) := Lib.hid (HB9.out.trans hb4 (fun y hy => .inr (by simp at hy; omega)))
              clear hS4 hb4 ho4
              go_wp2_with fail
              refine (same_yes _ _ x.bs _ HO4.out (HSE.out.but HB94.out (by simp)) HIB.out (by omega)).mono ?_
              rintro e w5 ⟨rfl, hb5⟩
              have HB5 := Lib.hid hb5
              have HOT : ∀ all', OwnQ w4 36 all' vals → (∀ k, all'.ownBlock = some k → base ≤ k) → OrdS w base R (16 + m) (k + 1) all' (.int .i64 (16 + m - used ls)) w5 ls vals := fun all' hq hk => ordS_new (ordS_take HO.out hbw HS4.out HB4.out hq hk) HB5.out (by omega)
              have HOT := Lib.hid HOT
              clear hb5
              have hleft : (16 + m - used (x :: ls) + 8 + (x.bs.length : Int)) = 16 + m - used ls := by rw [HU.out]; omega
              have HL := Lib.hid hleft
              clear hleft
              by_cases hcap1 : cq = 1
              · have HT := Lib.hid (HQ4.out.tail1 hcap1)
                go_wp2_with fail
                go_roundw
                case rel => exact ⟨k + 1, by omega, by go_num, _, _, (by rw [HL.out]; exact HOT.out _ HT.out (fun k hk => by cases hk; exact h8'))⟩
                case measure => simp [intOf]; omega
              · have HT := Lib.hid HQ4.out.tail
                go_wp2_with fail
                go_roundw
                case rel => exact ⟨k + 1, by omega, by go_num, _, _, (by rw [HL.out]; exact HOT.out _ HT.out (fun k hk => by cases hk; exact h8'))⟩
                case measure => simp [intOf]; omega
      · have hkl : k = l.length := by omega
        have hO := HO.out
        obtain ⟨h1, h2, h3, h4, h5, h6, h7, h8, h9⟩ := hO
        have hv6 : vals.length ≤ 4398046510976 := by omega
        have HO2 : Hid (RingS wr base R (16 + m) (ls.drop 0)) := Lib.hid h1
        have HB9 := Lib.hid h9
        have H7 := Lib.hid h7
        have HQ := Lib.hid h4
        have HV := Lib.hid h5
        clear h1 h2 h3 h4 h5 h6 h7 h8 h9 HO hlt hk
        subst hkl
        go_wp2_with fail
        go_loopw [14] (fun i wx => ∃ j : Nat, j ≤ vals.length ∧ i = .int .i64 j ∧ RingS wx base R (16 + m) (ls.drop j) ∧ OwnQ wx 36 (.slice aq vals.length cq) vals ∧ But [] w wx) (fun i _ => vals.length - (intOf i).toNat)
        case atStart => exact ⟨0, Nat.zero_le _, rfl, HO2.out, HQ.out, HB9.out⟩
        case round =>
          obtain ⟨j, hj, rfl, hSx, hQx, hBx⟩ := hrel
          have HS := Lib.hid hSx
          have HQx := Lib.hid hQx
          have HBx := Lib.hid hBx
          clear HO2 HB9 HQ hSx hQx hBx
          by_cases hjl : j < vals.length
          · obtain ⟨x, hx⟩ : ∃ x, ls[j]? = some x := ⟨_, List.getElem?_eq_getElem (by have := HV.out; omega)⟩
            obtain ⟨v0, hv0⟩ : ∃ v0, vals[j]? = some v0 := ⟨_, List.getElem?_eq_getElem hjl⟩
            have hdrop : ls.drop j = x :: ls.drop (j + 1) := by
              have hxl := (List.getElem?_eq_some_iff.1 hx).1
              rw [List.drop_eq_getElem_cons hxl]
              have := (List.getElem?_eq_some_iff.1 hx).2
              rw [this]
            obtain ⟨hse, hib, hbl⟩ := H7.out j v0 x hv0 hx
            obtain ⟨a0, c0, rfl⟩ := sl_of hse
            have hS1 : RingS wr base R (16 + m) (x :: ls.drop (j + 1)) := by rw [← hdrop]; exact HS.out
            obtain ⟨ax, cx, ex⟩ := own_form hS1.links.2.1
            have hQ0 := HQx.out
            rcases hQ0 with ⟨h40, h41⟩ | ⟨g, oq, cap, cur, h40, hg, hc, hm', hs', hxx⟩
            · rw [h41] at hjl; simp at hjl
            · simp only [Value.slice.injEq, true_and] at h40
              obtain ⟨rfl, rfl⟩ := h40
              have hcell : wr.cell? ⟨g, oq + j, none⟩ = some (.slice a0 x.bs.length c0) := (cell_of hg (oq + j)).trans (hxx j _ hv0)
              have hne : g ≠ R := fun e => by
                have := HQx.out.apart hS1 g rfl
                exact this (by rw [e]; exact List.mem_cons_self ..)
              have hbR : w.heap.size ≤ R := Nat.le_trans hbw hS1.hbase
              have HS1 := Lib.hid hS1
              have HSE := Lib.hid hse
              have HIB := Lib.hid hib
              have HEX := Lib.hid ex
              have HC := Lib.hid hcell
              have hj0 : (0 : Int) ≤ j := by omega
              have hj1 : (j : Int) < vals.length := by omega
              have hvc : (vals.length : Int) ≤ cq := by omega
              clear hx hv0 hdrop hse hib hS1 hg hc hm' hs' hxx hcell ex HS
              go_wp2_with fail
              refine (calls_val (HS1.out.takes (by omega)) (v' := .tuple #[.slice ax x.bs.length cx, .int .i64 0]) (by rw [HEX.out])).mono ?_
              rintro e w4 ⟨rfl, hS4, hb4, ho4⟩
              have hc4 : w4.cell? ⟨g, oq + j, none⟩ = some (.slice a0 x.bs.length c0) := cell_but hb4 HC.out (by simpa using hne)
              have HS4 := Lib.hid hS4
              have HO4 : Hid (Sees w4 (.slice ax x.bs.length cx) x.bs) := Lib.hid (by rw [← HEX.out]; exact ho4.sees)
              have HQ4 := Lib.hid (HQx.out.but hb4 (by intro k hk; cases hk; simpa using hne))
              have HB94 : Hid (But [] w w4) := Lib.hid (HBx.out.trans hb4 (fun y hy => .inr (by simp at hy; omega)))
              clear hS4 hb4 ho4
              go_wp2_with fail
              refine (same_yes _ _ x.bs _ HO4.out (HSE.out.but HB94.out (by simp)) HIB.out (by omega)).mono ?_
              rintro e w5 ⟨rfl, hb5⟩
              have HB5 := Lib.hid hb5
              clear hb5
              go_wp2_with fail
              go_roundw
              case rel => exact ⟨j + 1, by omega, by go_num, HS4.out.keep HB5.out, HQ4.out.but HB5.out (by simp), HB94.out.trans HB5.out (by simp)⟩
              case measure => simp [intOf]; omega
          · obtain rfl : j = vals.length := by omega
            have hnil : ls.drop vals.length = [] := List.drop_eq_nil_of_le (by rw [HV.out]; exact Nat.le_refl _)
            have HS0 : Hid (RingS wr base R (16 + m) []) := Lib.hid (by rw [← hnil]; exact HS.out)
            clear hnil HS
            go_wp2_with fail
            refine (calls_val (HS0.out.room (by omega) (by omega) (by simp [used]; omega)) (v' := .int .i64 (16 + m)) (by simp [used])).mono ?_
            rintro e w4 ⟨rfl, hb4⟩
            have HB4 : Hid (But [] w w4) := Lib.hid (HBx.out.trans hb4 (by simp))
            clear hb4
            go_wp2_with fail
            go_ret
            exact ⟨by simp, HB4.out⟩
theorem ringOrder_walk (w : World) (room : Int) (v : Value) (l : List Deed) (h0 : (Lit.int .i64 room).wf = true) (hs : SeesDeeds w v l) (hl : l.length ≤ 4398046510976) :
    Calls Try.prog 6 #[.int .i64 room, v] w fun e w' => e = .returned (.bool true) ∧ Below w.heap.size w w' := by
  have h : -9223372036854775808 ≤ room ∧ room ≤ 9223372036854775807 := by
    simp only [Lit.wf, Bool.and_eq_true, decide_eq_true_eq] at h0
    exact ⟨h0.1, h0.2⟩
  exact (ringOrder room v l w h.1 h.2 hs hl).mono fun _ _ ⟨he, hb⟩ => ⟨he, hb.below (Nat.le_refl _) (by simp)⟩
end Go.Proofs.Ytlajffbjkgedhaa.M
