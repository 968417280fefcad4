/-
  'RingLives' tells true: the walk.
-/
import Derived.Test.YtlajffbjkgedhaaLives
import Derived.Test.YtlajffbjkgedhaaPick
import Derived.Test.YtlajffbjkgedhaaOver
import Derived.Deep.DeepCutAuto
import Derived.Deep.CutBlock
import Derived.Deep.RegionHeld3
import Derived.Deep.DrawnRows
namespace Go.Proofs.Ytlajffbjkgedhaa.M
open Go.RowKit
set_option linter.unusedVariables false
set_option linter.unusedSectionVars false
set_option linter.unusedSimpArgs false
attribute [local go_sem ↓] Go.wp_at_zero Go.wp_at_succ
theorem sl_ofL {w : World} {s : Value} {xs : List Value} (h : Sees w s xs) : ∃ a c, s = .slice a xs.length c := by
  obtain ⟨a, c, e, _⟩ := sees_shape h
  exact ⟨a, c, e⟩
theorem calls_val' {P : Program} {k : FuncId} {args : Array Value} {w : World} {v v' : Value} {R : World → Prop} (h : Calls P k args w fun e w' => e = .returned v ∧ R w') (hv : v = v') : Calls P k args w fun e w' => e = .returned v' ∧ R w' := by
  subst hv; exact h
/-- What holds behind a deed: all but what was lent. -/
def Deedone (w : World) (base R X : Nat) (n : Int) (k g : Nat) (inn told : Value) (xs : List Value) (wx : World) : Prop :=
  ∃ ls tv, Lives w base R X n k told wx ls tv ∧ RefS wx (fun b => okL base told b ∧ b ≠ g) X n (ls.map Lk.bs) ∧ Lent wx inn xs ∧ (∀ (i : Nat) (v : Value), (tv ++ ls.map Lk.sl)[i]? = some v → v.ownBlock ≠ some g)
set_option maxRecDepth 100000 in
set_option maxHeartbeats 8000000 in
theorem ringLives (k key val ent : Int) (v : Value) (l : List Deed) (w : World) (hk : (Lit.int .u8 k).wf = true) (hs : SeesDeeds w v l) (hl : l.length ≤ 4398046510976) :
    Calls Try.prog 3 #[.agg #[.int .u8 k, .int .i64 key, .int .i64 val, .int .i64 ent], v] w fun e w' => e = .returned (.bool true) ∧ But [] w w' := by
  obtain ⟨i0, hi, hz0, hz1, hz2⟩ := info_parts (show (Try.prog.info? 36).map (fun i => (i.zero, i.size, i.bytes)) = some (some (.slice none 0 0), 1, 24) by kernel_rfl)
  obtain ⟨a, c, rfl, hD⟩ := hs
  have HD := Lib.hid hD
  have HWF := Lib.hid hk
  have hbox := al_at w (.cells #[.int .u8 k, .int .i64 key, .int .i64 val, .int .i64 ent] 24)
  have HBOX := Lib.hid hbox
  have HB0 : Hid (But [] w (w.alloc (.cells #[.int .u8 k, .int .i64 key, .int .i64 val, .int .i64 ent] 24))) := Lib.hid ((But.refl _ _).alloc _)
  clear hD hk hbox
  go_enter Try.func3, Try.ntmps3
  go_wp2_with fail
  refine (great2 _ l _ ⟨a, c, rfl, fun i d h => (HD.out i d h).keep HB0.out⟩ hl).mono ?_
  rintro e w1 ⟨g, rfl, hgf, hb⟩
  have HBX1 := Lib.hid (hb.heap HBOX.out (by simp))
  have HB1 : Hid (But [] w w1) := Lib.hid (HB0.out.trans hb (by simp))
  clear hb HBOX HB0
  cases g with
  | true =>
    clear hgf
    go_wp2_with fail
    refine (awake _).mono ?_
    rintro e w2 ⟨rfl, hb⟩
    have HB2 : Hid (But [] w w2) := Lib.hid (HB1.out.trans hb (by simp))
    clear hb
    go_wp2_with fail
    go_ret
    exact ⟨rfl, HB2.out⟩
  | false =>
    have hl3 : l.length ≤ 300 := hgf rfl
    clear hgf
    have c0 : w1.cell? ⟨w.heap.size, 0, none⟩ = some (.int .u8 k) := cl_of HBX1.out 0
    have c1 : w1.cell? ⟨w.heap.size, 1, none⟩ = some (.int .i64 key) := cl_of HBX1.out 1
    have c2 : w1.cell? ⟨w.heap.size, 2, none⟩ = some (.int .i64 val) := cl_of HBX1.out 2
    have c3 : w1.cell? ⟨w.heap.size, 3, none⟩ = some (.int .i64 ent) := cl_of HBX1.out 3
    by_cases hE : specE k key val ent = 0
    · by_cases h7 : k = 7
      · subst h7
        obtain ⟨rfl, rfl, he1, he2⟩ := specE_ring hE
        clear hE
        go_wp2_with fail
        refine (new7 ent _ he1 he2).mono ?_
        rintro e w2 ⟨R, rfl, hS2, hb2⟩
        have hh := hb2.heap HBX1.out (by simp)
        have HB2 : Hid (But [] w w2) := Lib.hid (HB1.out.trans hb2 (by simp))
        have d0 : w2.cell? ⟨w.heap.size, 0, none⟩ = some (.int .u8 7) := cl_of hh 0
        have d1 : w2.cell? ⟨w.heap.size, 1, none⟩ = some (.int .i64 0) := cl_of hh 1
        have d2 : w2.cell? ⟨w.heap.size, 2, none⟩ = some (.int .i64 0) := cl_of hh 2
        have d3 : w2.cell? ⟨w.heap.size, 3, none⟩ = some (.int .i64 ent) := cl_of hh 3
        have hzw2 := hb2.size
        have hz1' := HB1.out.size
        obtain ⟨base, hbase⟩ : ∃ base, base = w1.heap.size := ⟨_, rfl⟩
        rw [← hbase] at hS2 hzw2
        have hbw : w.heap.size ≤ base := by omega
        have HS2 := Lib.hid hS2
        clear hh hb2 hS2 c0 c1 c2 c3 HBX1 hbase
        go_wp2_with fail
        refine (refNew7 ent _ he1 he2 (okL base (.slice none 0 0)) (fun b hb => ⟨by omega, by simp [Value.ownBlock]⟩)).mono ?_
        rintro e w3 ⟨X, rfl, hR3, hb3⟩
        have HL0 : Hid (Lives w base R X ent 0 (.slice none 0 0) w3 [] []) := Lib.hid { hbase := hbw, ring := HS2.out.keep hb3, fits := by simp [used]; omega, ref := hR3, few := Nat.le_refl _, bytes := (fun x hx => by cases hx), toldq := OwnQ.nil _ _, toldlow := (fun b hb => by cases hb), rows := (fun j v hv => by simp at hv), apart := (fun i j u v b hu => by simp at hu), tfew := Nat.le_refl _, but := HB2.out.trans hb3 (by simp) }
        have hbw3 : base ≤ w3.heap.size := Nat.le_trans hzw2 hb3.size
        clear hR3 hb3 HS2 HB2 d0 d1 d2 d3
        go_wp2_with fail
        go_loopw [9, 10] (fun told i wr => ∃ (m : Nat) (ls : List Lk) (tv : List Value), m ≤ l.length ∧ i = .int .i64 m ∧ Lives w base R X ent m told wr ls tv) (fun _ i _ => l.length - (intOf i).toNat)
        case atStart => exact ⟨0, [], [], Nat.zero_le _, rfl, HL0.out⟩
        case round =>
          obtain ⟨m, ls, tv, hm, rfl, hL⟩ := hrel
          obtain ⟨ta, tc, rfl⟩ := hL.toldq.form
          have HL := Lib.hid hL
          have hfew := hL.few
          have htfew := hL.tfew
          have hfit := hL.fits
          have hu0 := used_nonneg ls
          clear hL HL0
          by_cases hlt : m < l.length
          · obtain ⟨d, hd⟩ : ∃ d, l[m]? = some d := ⟨_, List.getElem?_eq_getElem hlt⟩
            obtain ⟨b, o, rfl, g1, g2, g3, g4, g5⟩ := HD.out m d hd
            obtain ⟨t, s, xs⟩ := d
            obtain ⟨a3, c3, e3⟩ := sl_ofL g3
            simp only at e3 g1 g2 g3 g4 g5
            subst e3
            have HG1 := Lib.hid g1
            have HG2 := Lib.hid g2
            have HS := Lib.hid g3
            have HI := Lib.hid g4
            have hbr := HL.out.but
            have e1 : wr.cell? ⟨b, o + m * 2, none⟩ = some (.bool t) := cell_but hbr HG1.out (by simp)
            have e2 : wr.cell? ⟨b, o + m * 2 + 1, none⟩ = some (.slice a3 xs.length c3) := cell_but hbr HG2.out (by simp)
            have hk0 : (0 : Int) ≤ m := by omega
            have hk1 : (m : Int) < l.length := by omega
            have HSr := Lib.hid (HS.out.but hbr (by simp))
            obtain ⟨g, hg⟩ : ∃ g, g = wr.heap.size := ⟨_, rfl⟩
            have hbg : base ≤ g := by rw [hg]; exact Nat.le_trans HL.out.ring.hbase (Nat.le_of_lt HL.out.ring.lt)
            have HGN : Hid (∀ (i : Nat) (v : Value), (tv ++ ls.map Lk.sl)[i]? = some v → v.ownBlock ≠ some g) := Lib.hid fun i v hv hb => by have := HL.out.lt i v g hv hb; omega
            have HR0 : Hid (RefS wr (fun b => okL base (.slice ta tv.length tc) b ∧ b ≠ g) X ent (ls.map Lk.bs)) := Lib.hid (HL.out.ref.also fun b hb hk => ⟨hk, by omega⟩)
            have HGG := Lib.hid hg
            have HBW : Hid (b < base) := Lib.hid (by have := cell_lt HG2.out; have h2 : b < w.heap.size := this; omega)
            clear hd g1 g2 g3 g4 hbr hg
            go_wp2_with fail
            refine (lent _ xs _ HSr.out HI.out (by omega)).mono ?_
            rintro e w4 ⟨inn, rfl, hin, hing, hb4⟩
            rw [← HGG.out] at hing
            obtain ⟨g', hg'⟩ := hin.form
            have hgg : g' = g := by rw [hg'] at hing; simpa [Value.ownBlock] using hing
            subst hgg
            subst hg'
            have HIN := Lib.hid hin
            have HL4 := Lib.hid (HL.out.new hb4 (Nat.le_refl _))
            have HR4 := Lib.hid (HR0.out.keep hb4 (by simp))
            have hbr4 := HL4.out.but
            have e1 : w4.cell? ⟨b, o + m * 2, none⟩ = some (.bool t) := cell_but hbr4 HG1.out (by simp)
            have e2 : w4.cell? ⟨b, o + m * 2 + 1, none⟩ = some (.slice a3 xs.length c3) := cell_but hbr4 HG2.out (by simp)
            have hgl4 : g' < w4.heap.size := by
              obtain ⟨cur, h1, _⟩ := hin.tag g' rfl
              exact lt_of h1
            have hbl4 : base ≤ w4.heap.size := by omega
            have HSI := Lib.hid hin.sees
            clear hb4 hin hing hbr4 HL HR0 HSr
            go_upto_if 58 with fail
            go_cut [9] (fun told' wx => (∃ ta tn tc, told' = .slice ta tn tc) ∧ Deedone w base R X ent (m + 1) g' (.slice (some ⟨g', 0, none⟩) xs.length (xs.length + 12)) told' xs wx)
            case first =>
              cases t with
              | true =>
                cases ls with
                | nil =>
                  have HRN : Hid (RefS w4 (fun b => okL base (.slice ta tv.length tc) b ∧ b ≠ g') X ent []) := HR4
                  go_wp2_with fail
                  refine (HL4.out.ring.takesNone (by omega)).mono ?_
                  rintro e w5 ⟨rfl, rfl⟩
                  go_wp2_with fail
                  refine (refTake_none HRN.out).mono ?_
                  rintro e w6 ⟨rfl, rfl⟩
                  go_wp2_with fail
                  refine (same_yes (.slice none 0 0) (.slice none 0 0) [] _ (.inl ⟨rfl, rfl⟩) (.inl ⟨rfl, rfl⟩) (by intro u hu; cases hu) (by decide)).mono ?_
                  rintro e w7 ⟨rfl, hb7⟩
                  have hL7 := HL4.out.new hb7 (Nat.le_refl _)
                  have hq7 := hL7.toldq
                  have HQ7 : Hid (OwnQ (w7.alloc (.cells #[.slice none 0 0] 36)) 36 (.slice ta tv.length tc) tv) := Lib.hid (hq7.but ((But.refl [] _).alloc _) (by simp))
                  have hin7 := HIN.out.but hb7 (by simp)
                  have key : ∀ (v' : Value) (w9 : World), Appended (w7.alloc (.cells #[.slice none 0 0] 36)) w9 36 (.slice ta tv.length tc) v' tv [.slice none 0 0] → ∃ a' c', v' = Value.slice a' (tv.length + 1) c' ∧ Deedone w base R X ent (m + 1) g' (.slice (some ⟨g', 0, none⟩) xs.length (xs.length + 12)) v' xs w9 := fun v' w9 hap => by
                    obtain ⟨a', c', e⟩ := hap.1.form
                    have ht := Lives.tell (P := fun b => b ≠ g') (xs := []) hL7.hbase hL7.ring hL7.fits (HR4.out.keep hb7 (by simp)) hL7.few hL7.bytes hL7.toldq hL7.toldlow hL7.rows (.inl ⟨rfl, rfl⟩) (by simp) (fun b hb => by cases hb) (fun i j u v b hu hv hbu hbv => by
                      simp only [List.map_nil] at hu hv
                      have cut : ∀ {i : Nat} {u : Value}, (tv ++ [Value.slice none 0 0])[i]? = some u → u.ownBlock = some b → tv[i]? = some u := fun {i u} hu hb => by
                        by_cases hi : i < tv.length
                        · rwa [List.getElem?_append_left hi] at hu
                        · rw [List.getElem?_append_right (by omega)] at hu
                          cases hii : i - tv.length with
                          | zero => rw [hii] at hu; simp at hu; subst hu; cases hb
                          | succ q => rw [hii] at hu; simp at hu
                      have hap' := hL7.apart
                      simp only [List.map_nil, List.append_nil] at hap'
                      exact hap' i j u v b (cut hu hbu) (cut hv hbv) hbu hbv) hL7.tfew hL7.but (Nat.le_trans hbl4 hb7.size) hap
                    refine ⟨a', c', by rw [e, List.length_append]; rfl, [], tv ++ [.slice none 0 0], ht.1, ht.2, hin7.but (appended_but hap) (fun b hb hm => ?_), fun i u hu hub => ?_⟩
                    · obtain ⟨cur, hg, _⟩ := hin7.tag b hb
                      exact hq7.tagoff hg (by decide) (by simpa using hm)
                    · simp only [List.map_nil, List.append_nil] at hu
                      by_cases hi : i < tv.length
                      · rw [List.getElem?_append_left hi] at hu
                        exact HGN.out i u (by simp; exact hu) hub
                      · rw [List.getElem?_append_right (by omega)] at hu
                        cases hii : i - tv.length with
                        | zero => rw [hii] at hu; simp at hu; subst hu; cases hub
                        | succ q => rw [hii] at hu; simp at hu
                  have KEY := Lib.hid key
                  have HSRC : Hid (Src Try.prog i0.size 35 (.slice (some ⟨w7.heap.size, 0, none⟩) 1 1) [Value.slice none 0 0].length [Value.slice none 0 0] (w7.alloc (.cells #[.slice none 0 0] 36))) := Lib.hid (by
                    rw [hz1]
                    exact Src.ofSlice _ Try.underlying35 _ 1 1 _ (by simp) (cell_one_new _ _ _) (by intro u hu; simp at hu; subst hu; rfl))
                  clear hb7 hL7 hq7 hin7 key
                  go_wp2_with (at_builtin; refine wpList_append_row rfl _ _ 35 rfl 36 i0 (.slice none 0 0) 24 Try.underlying35 hi hz0 hz1 hz2 rfl _ tv rfl HQ7.out [Value.slice none 0 0] _ rfl HSRC.out (by unfold maxLen; simp only [List.length_cons, List.length_nil]; omega) (by simp only [List.length_cons, List.length_nil]; omega) ?_; intro v' w9 hap; obtain ⟨a9, c9, rfl, h9⟩ := KEY.out _ _ hap; have H9 := Lib.hid h9; clear hap h9)
                  go_meet
                  exact ⟨⟨_, _, _, rfl⟩, H9.out⟩
                | cons x ls =>
                  obtain ⟨ax, cx, ex⟩ := own_form HL4.out.ring.links.2.1
                  have HEX := Lib.hid ex
                  have hxb := HL4.out.bytes x (by simp)
                  have HXB := Lib.hid hxb
                  have hxl : x.bs.length ≤ 65536 := hxb.2
                  have hlf : ls.length ≤ 300 := by simp at hfew; omega
                  clear ex hxb
                  go_wp2_with fail
                  refine (calls_val' (R := fun w' => RingS w' base R ent ls ∧ But [R] w4 w' ∧ Own w' x.sl x.bs) (HL4.out.ring.takes (by omega)) (v' := .tuple #[.slice ax x.bs.length cx, .int .i64 0]) (by rw [HEX.out])).mono ?_
                  rintro e w5 ⟨rfl, hS5, hb5, ho5⟩
                  have hR5 : RefS w5 (fun b => okL base (.slice ta tv.length tc) b ∧ b ≠ g') X ent (x.bs :: ls.map Lk.bs) := ((HR4.out.tags (L := [R]) (fun y hy => tags_ring HL4.out.ring y (by simp at hy; simp [hy]))).keep hb5 (fun y hy hk => hk.2 hy)).also (fun b _ hk => hk.1)
                  have HS5 := Lib.hid hS5
                  have HB5 := Lib.hid hb5
                  have HO5 := Lib.hid ho5
                  have HR5 := Lib.hid hR5
                  have HTL : Hid (∀ b, (Value.slice ta tv.length tc).ownBlock = some b → b < w4.heap.size) := Lib.hid fun b hb => HL4.out.toldq.lt hb
                  have hz5 := hb5.size
                  clear hS5 hb5 ho5 hR5
                  go_wp2_with fail
                  refine (refTake_some HR5.out (by simp; omega) (fun b hb => ⟨⟨by omega, fun h => by have := HTL.out b h; omega⟩, by omega⟩)).mono ?_
                  rintro e w6 ⟨v6, rfl, hv6, hR6, hb6⟩
                  obtain ⟨a6, c6, rfl⟩ := hv6.form
                  obtain ⟨cs, hX5⟩ : ∃ cs, w5.heap[X]? = some (.cells cs 60) := by
                    obtain ⟨_, _, _, _, h1, _⟩ := HR5.out
                    exact ⟨_, h1⟩
                  have hx6 : Sees w6 (.slice ax x.bs.length cx) x.bs := by
                    rw [← HEX.out]
                    exact ((HO5.out.que).one hb6 hX5 (by decide)).sees
                  have HX6 := Lib.hid hx6
                  have HV6 := Lib.hid hv6.sees
                  have HR6 := Lib.hid hR6
                  have HB6 := Lib.hid hb6
                  have HX5 := Lib.hid hX5
                  clear hv6 hR6 hb6 hX5 hx6
                  go_wp2_with fail
                  refine (same_yes _ _ x.bs _ HX6.out HV6.out HXB.out.1 (by omega)).mono ?_
                  rintro e w7 ⟨rfl, hb7⟩
                  obtain ⟨lR, hRc, _⟩ := HL4.out.ring.cell
                  have hq7 : OwnQ w7 36 (.slice ta tv.length tc) tv := ((HL4.out.toldq.one HB5.out hRc (by decide)).one HB6.out HX5.out (by decide)).but hb7 (by simp)
                  have HQ7 : Hid (OwnQ (w7.alloc (.cells #[.slice ax x.bs.length cx] 36)) 36 (.slice ta tv.length tc) tv) := Lib.hid (hq7.but ((But.refl [] _).alloc _) (by simp))
                  have hin7 : Lent w7 (.slice (some ⟨g', 0, none⟩) xs.length (xs.length + 12)) xs := by
                    obtain ⟨cur, hcur, _⟩ := HIN.out.tag g' rfl
                    have h5 : Lent w5 (.slice (some ⟨g', 0, none⟩) xs.length (xs.length + 12)) xs := HIN.out.but HB5.out (fun b hb hm => by
                      cases hb
                      simp only [List.mem_singleton] at hm
                      rw [hm, hRc] at hcur
                      simp only [Option.some.injEq, Obj.cells.injEq] at hcur
                      exact absurd hcur.2.1 (by decide))
                    obtain ⟨cur5, hcur5, _⟩ := h5.tag g' rfl
                    exact (h5.but HB6.out (fun b hb hm => by
                      cases hb
                      simp only [List.mem_singleton] at hm
                      rw [hm, HX5.out] at hcur5
                      simp only [Option.some.injEq, Obj.cells.injEq] at hcur5
                      exact absurd hcur5.2.1 (by decide))).but hb7 (by simp)
                  have key : ∀ (v' : Value) (w9 : World), Appended (w7.alloc (.cells #[.slice ax x.bs.length cx] 36)) w9 36 (.slice ta tv.length tc) v' tv [.slice ax x.bs.length cx] → ∃ a' c', v' = Value.slice a' (tv.length + 1) c' ∧ Deedone w base R X ent (m + 1) g' (.slice (some ⟨g', 0, none⟩) xs.length (xs.length + 12)) v' xs w9 := fun v' w9 hap => by
                    obtain ⟨a', c', e⟩ := hap.1.form
                    rw [← HEX.out] at hap
                    have ht := HL4.out.took (P := fun b => b ≠ g') HS5.out HB5.out HO5.out HX5.out HB6.out HR6.out hb7 hap
                    refine ⟨a', c', by rw [e, List.length_append]; rfl, ls, tv ++ [x.sl], ht.1, ht.2, hin7.but (appended_but hap) (fun b hb hm => ?_), fun i u hu hub => ?_⟩
                    · obtain ⟨cur, hg, _⟩ := hin7.tag b hb
                      exact hq7.tagoff hg (by decide) (by simpa using hm)
                    · exact HGN.out i u (by rw [List.map_cons]; rwa [List.append_assoc] at hu) hub
                  have KEY := Lib.hid key
                  have HSRC : Hid (Src Try.prog i0.size 35 (.slice (some ⟨w7.heap.size, 0, none⟩) 1 1) [Value.slice ax x.bs.length cx].length [Value.slice ax x.bs.length cx] (w7.alloc (.cells #[.slice ax x.bs.length cx] 36))) := Lib.hid (by
                    rw [hz1]
                    exact Src.ofSlice _ Try.underlying35 _ 1 1 _ (by simp) (cell_one_new _ _ _) (by intro u hu; simp at hu; subst hu; rfl))
                  clear hb7 hq7 hin7 key hRc
                  go_wp2_with (at_builtin; refine wpList_append_row rfl _ _ 35 rfl 36 i0 (.slice none 0 0) 24 Try.underlying35 hi hz0 hz1 hz2 rfl _ tv rfl HQ7.out [Value.slice ax x.bs.length cx] _ rfl HSRC.out (by unfold maxLen; simp only [List.length_cons, List.length_nil]; omega) (by simp only [List.length_cons, List.length_nil]; omega) ?_; intro v' w9 hap; obtain ⟨a9, c9, rfl, h9⟩ := KEY.out _ _ hap; have H9 := Lib.hid h9; clear hap h9)
                  go_meet
                  exact ⟨⟨_, _, _, rfl⟩, H9.out⟩
              | false =>
                go_upto_region 20 with fail
                go_cut [102] (fun s wx => s = .bool false ∧ Deedone w base R X ent (m + 1) g' (.slice (some ⟨g', 0, none⟩) xs.length (xs.length + 12)) (.slice ta tv.length tc) xs wx)
                case first =>
                  by_cases hlong : 65536 < xs.length
                  · have HDN : Hid (∀ wx, But [] w4 wx → Deedone w base R X ent (m + 1) g' (.slice (some ⟨g', 0, none⟩) xs.length (xs.length + 12)) (.slice ta tv.length tc) xs wx) := Lib.hid fun wx hb => ⟨ls, tv, HL4.out.new hb (by omega), HR4.out.keep hb (by simp), HIN.out.but hb (by simp), HGN.out⟩
                    have HCC : Hid (∀ wx, But [] w4 wx → wx.cell? ⟨b, o + m * 2 + 1, none⟩ = some (.slice a3 xs.length c3)) := Lib.hid fun wx hb => cell_but hb e2 (by simp)
                    go_region_held3 (fun w' => w'.cell? ⟨b, o + m * 2 + 1, none⟩ = some (.slice a3 xs.length c3)) (first | assumption | go_keep) (first | (go_at_call 17; have hS7 := HS.out.but (HL4.out.but.trans HB5.out (by simp)) (by simp); have hI7 := HIN.out.but HB5.out (by simp); refine (kept _ _ xs _ hI7 hS7 HI.out (by omega)).mono ?_; clear hS7 hI7; rintro e w7 ⟨rfl, hb7⟩; have HB7 := Lib.hid (HB5.out.trans hb7 (by simp)); clear hb7; have e7 := HCC.out w7 HB7.out) | (go_at_call 16; refine (refPut_long X _ _ _ hlong (by omega)).mono ?_; rintro e w6 ⟨rfl, rfl⟩) | (go_at_call 15; refine (ringPut_long (base := base) (n := ent) (ls := ls) (HL4.out.ring.keep ((But.refl [] w4).drew)) (by omega) _ _ _ hlong (by omega)).mono ?_; rintro e w5 ⟨rfl, hb5⟩; replace hb5 : But [] w4 w5 := (((But.refl [] w4).drew).trans hb5 (by simp)); have e5 := HCC.out w5 hb5; have HB5 := Lib.hid hb5; clear hb5))
                    go_wp2_with fail
                    go_meet
                    exact ⟨rfl, HDN.out _ HB7.out⟩
                  · by_cases hf : 8 + (xs.length : Int) + used ls ≤ ent
                    · have HTL : Hid (∀ b, (Value.slice ta tv.length tc).ownBlock = some b → b < w4.heap.size) := Lib.hid fun b hb => HL4.out.toldq.lt hb
                      have HCC : Hid (∀ wx (L : List Nat), But L w4 wx → (∀ x ∈ L, base ≤ x) → wx.cell? ⟨b, o + m * 2 + 1, none⟩ = some (.slice a3 xs.length c3)) := Lib.hid fun wx L hb hL => cell_but ((HL4.out.but.trans hb (fun x hx => .inr (by have := hL x hx; omega))) : But [] w wx) HG2.out (by simp)
                      have HTOP := Lib.hid HL4.out.ring.tops
                      go_region_held3 (fun w' => w'.cell? ⟨b, o + m * 2 + 1, none⟩ = some (.slice a3 xs.length c3)) (first | assumption | go_keep) (first | (go_at_call 17; have hI5 : Lent w5 (.slice (some ⟨g', 0, none⟩) xs.length (xs.length + 12)) xs := HIN.out.but HB5.out (fun b hb hm => by (obtain ⟨cs, t, hg, _, _, ht⟩ := tags_ring HL4.out.ring b hm; obtain ⟨cur, hc, _⟩ := HIN.out.tag b hb; rw [hc] at hg; simp only [Option.some.injEq, Obj.cells.injEq] at hg; exact ht hg.2.1.symm)); have hI6 : Lent w6 (.slice (some ⟨g', 0, none⟩) xs.length (xs.length + 12)) xs := hI5.but HB6.out (fun b hb hm => by (cases hb; exact (HL6.out _ hm).1.2 rfl)); have hs6 : Sees w6 (.slice a3 xs.length c3) xs := HS.out.but (((HL4.out.but.trans HB5.out (fun x hx => .inr (by have := HTOP.out x hx; omega))).trans HB6.out (fun x hx => .inr (by have h1 := (HL6.out x hx).1.1.1; have h2 : base ≤ x := h1; omega))) : But [] w w6) (by simp); have HI6 := Lib.hid hI6; refine (kept _ _ xs _ hI6 hs6 HI.out (by omega)).mono ?_; clear hI5 hI6 hs6; rintro e w7 ⟨rfl, hb7⟩; have e7 := cell_but hb7 e6 (by simp); have HB7 := Lib.hid hb7; clear hb7) | (go_at_call 16; have hR5 : RefS w5 (fun b => okL base (.slice ta tv.length tc) b ∧ b ≠ g') X ent (ls.map Lk.bs) := ((HR4.out.tags (tags_ring HL4.out.ring)).keep HB5.out (fun y hy hk => hk.2 hy)).also (fun b _ hk => hk.1); have hs5 : Sees w5 (.slice a3 xs.length c3) xs := HS.out.but ((HL4.out.but.trans HB5.out (fun x hx => .inr (by have := HTOP.out x hx; omega))) : But [] w w5) (by simp); refine (refPut_ok hR5 (by omega) (by omega) (by rw [used_eq]; exact hfit) (by simp; omega) (fun b hb => ⟨⟨by omega, fun h => by have := HTL.out b h; omega⟩, by omega⟩) hs5 HI.out (by omega) (by rw [used_eq]; exact hf)).mono ?_; clear hR5 hs5; rintro e w6 ⟨rfl, hR6, L6, hb6, hL6⟩; have HR6 := Lib.hid hR6; have HB6 := Lib.hid hb6; have HL6 := Lib.hid hL6; have e6 := cell_but hb6 e5 (fun hm => by have h1 := (HL6.out _ hm).1.1.1; have h2 : base ≤ b := h1; have h3 := HBW.out; omega); clear hR6 hb6 hL6) | (go_at_call 15; refine (ringPut_ok (base := base) (n := ent) (ls := ls) (xs := xs) (HL4.out.ring.keep ((But.refl [] w4).drew)) (by omega) (by omega) hfit (HSI.out.but ((But.refl [] w4).drew) (by simp)) HI.out (by omega) hf).mono ?_; rintro e w5 ⟨rfl, ⟨zb, zs, zx⟩, hzx, hzn, hS5, hb5⟩; replace hzx : xs = zx := hzx.symm; subst hzx; replace hb5 : But (R :: ls.map Lk.blk) w4 w5 := ((But.refl [] w4).drew).trans' hb5; have e5 := HCC.out w5 _ hb5 HTOP.out; have HZN : Hid (∀ b, zs.ownBlock = some b → w4.heap.size ≤ b) := Lib.hid hzn; have HS5 := Lib.hid hS5; have hz5 := hb5.size; have HB5 := Lib.hid hb5; clear hb5 hS5 hzn))
                      go_wp2_with fail
                      go_meet
                      have hput := HL4.out.put HZN.out ⟨HI.out, (by show xs.length ≤ 65536; omega)⟩ HS5.out HB5.out hf (by rw [List.map_append]; exact HR6.out.also (fun b _ h => h.1)) HB6.out (fun x hx => ⟨(HL6.out x hx).1.1, (HL6.out x hx).2⟩)
                      refine ⟨rfl, ls ++ [⟨zb, zs, xs⟩], tv, hput.new HB7.out (Nat.le_refl _), ?_, HI6.out.but HB7.out (by simp), fun i u hu hub => ?_⟩
                      · rw [List.map_append]
                        exact HR6.out.keep HB7.out (by simp)
                      · rw [List.map_append, ← List.append_assoc] at hu
                        by_cases hi : i < (tv ++ ls.map Lk.sl).length
                        · rw [List.getElem?_append_left hi] at hu
                          exact HGN.out i u hu hub
                        · rw [List.getElem?_append_right (by omega)] at hu
                          cases hii : i - (tv ++ ls.map Lk.sl).length with
                          | zero =>
                            rw [hii] at hu
                            simp at hu
                            subst hu
                            have := HZN.out g' hub
                            omega
                          | succ q => rw [hii] at hu; simp at hu
                    · have HDN : Hid (∀ wx, But [] w4 wx → Deedone w base R X ent (m + 1) g' (.slice (some ⟨g', 0, none⟩) xs.length (xs.length + 12)) (.slice ta tv.length tc) xs wx) := Lib.hid fun wx hb => ⟨ls, tv, HL4.out.new hb (by omega), HR4.out.keep hb (by simp), HIN.out.but hb (by simp), HGN.out⟩
                      have HCC : Hid (∀ wx, But [] w4 wx → wx.cell? ⟨b, o + m * 2 + 1, none⟩ = some (.slice a3 xs.length c3)) := Lib.hid fun wx hb => cell_but hb e2 (by simp)
                      go_region_held3 (fun w' => w'.cell? ⟨b, o + m * 2 + 1, none⟩ = some (.slice a3 xs.length c3)) (first | assumption | go_keep) (first | (go_at_call 17; have hS7 := HS.out.but (HL4.out.but.trans HB5.out (by simp)) (by simp); have hI7 := HIN.out.but HB5.out (by simp); refine (kept _ _ xs _ hI7 hS7 HI.out (by omega)).mono ?_; clear hS7 hI7; rintro e w7 ⟨rfl, hb7⟩; have HB7 := Lib.hid (HB5.out.trans hb7 (by simp)); clear hb7; have e7 := HCC.out w7 HB7.out) | (go_at_call 16; refine (refPut_full (n := ent) (rows := ls.map Lk.bs) (HR4.out.keep HB5.out (by simp)) (by omega) (by omega) (by rw [used_eq]; exact hfit) (by simp; omega) _ _ _ (by omega) (by rw [used_eq]; omega)).mono ?_; rintro e w6 ⟨rfl, rfl⟩) | (go_at_call 15; refine (ringPut_full (base := base) (n := ent) (ls := ls) (HL4.out.ring.keep ((But.refl [] w4).drew)) (by omega) (by omega) hfit _ _ _ (by omega) (by omega)).mono ?_; rintro e w5 ⟨rfl, hb5⟩; replace hb5 : But [] w4 w5 := (((But.refl [] w4).drew).trans hb5 (by simp)); have e5 := HCC.out w5 hb5; have HB5 := Lib.hid hb5; clear hb5))
                      go_wp2_with fail
                      go_meet
                      exact ⟨rfl, HDN.out _ HB7.out⟩
                case rest =>
                  obtain ⟨rfl, hD⟩ := hcut
                  have HDD := Lib.hid hD
                  clear hD
                  go_wp2_with fail
                  go_meet
                  exact ⟨⟨_, _, _, rfl⟩, HDD.out⟩
            case rest =>
              obtain ⟨⟨ta', tn', tc', rfl⟩, ls', tv', hL', hR', hin', hgn'⟩ := hcut
              obtain ⟨cur, hcur, _⟩ := hin'.tag g' rfl
              have HOV := Lib.hid (fun (w5 : World) (hb : But [g'] wc w5) => hL'.over hR' hb hcur hgn' hbg)
              have HIN5 := Lib.hid hin'
              clear hL' hR' hin' hgn' hcur
              go_wp2_with fail
              refine (over_lent HIN5.out (by omega)).mono ?_
              rintro e w5 ⟨rfl, hb5⟩
              have hL5 := HOV.out w5 hb5
              have HL5 := Lib.hid hL5
              have hf5 := hL5.few
              have hu5 := hL5.fits
              clear hb5 HOV hL5
              go_wp2_with fail
              refine (HL5.out.ring.room (by omega) (by omega) hu5).mono ?_
              rintro e w6 ⟨rfl, hb6⟩
              have HL6 := Lib.hid (HL5.out.new hb6 (Nat.le_refl _))
              clear hb6 HL5
              go_wp2_with fail
              refine (calls_val' (HL6.out.ref.room (by omega) (by omega) (by rw [used_eq]; exact hu5) (by simp; omega)) (v' := .int .i64 (ent - used ls')) (by rw [used_eq])).mono ?_
              rintro e w7 ⟨rfl, rfl⟩
              go_wp2_with fail
              go_roundw
              case rel => exact ⟨m + 1, _, _, by omega, by go_num, HL6.out⟩
              case measure => simp [intOf]; omega
          · obtain rfl : m = l.length := by omega
            have HAP : Hid (ApartV tv) := Lib.hid fun i j u v b hu hv hbu hbv => HL.out.apart i j u v b (by rw [List.getElem?_append_left (List.getElem?_eq_some_iff.1 hu).1]; exact hu) (by rw [List.getElem?_append_left (List.getElem?_eq_some_iff.1 hv).1]; exact hv) hbu hbv
            have pick : ∀ k : Nat, ∃ n : Nat, ∀ v : Value, tv[k]? = some v → (∃ xs, OwnQ wr 5 v xs ∧ xs.length = n) ∧ n ≤ 1000000000000 := fun k => by
              cases hv : tv[k]? with
              | none => exact ⟨0, fun v h => by cases h⟩
              | some v =>
                obtain ⟨xs, h1, h2, _⟩ := HL.out.rows k v hv
                exact ⟨xs.length, fun u hu => by cases hu; exact ⟨⟨xs, h1, rfl⟩, by omega⟩⟩
            obtain ⟨nn, hnn⟩ := Classical.axiomOfChoice pick
            have HNN : Hid (∀ (k : Nat) (v : Value), tv[k]? = some v → (∃ xs, OwnQ wr 5 v xs ∧ xs.length = nn k) ∧ nn k ≤ 1000000000000) := Lib.hid fun k v hv => hnn k v hv
            clear pick hnn
            go_wp2_with fail
            refine (apartBytes _ tv nn _ HL.out.toldq.sees HAP.out HNN.out (by omega)).mono ?_
            rintro e w5 ⟨rfl, hb5⟩
            have HB5 : Hid (But [] w w5) := Lib.hid (HL.out.but.trans hb5 (fun x hx => .inr (by
              obtain ⟨j, u, hu, hub⟩ := of_blks hx
              obtain ⟨_, _, _, h3⟩ := HL.out.rows j u hu
              have := h3 x hub
              omega)))
            clear hb5
            go_wp2_with fail
            refine (awake _).mono ?_
            rintro e w6 ⟨rfl, hb⟩
            have HB6 : Hid (But [] w w6) := Lib.hid (HB5.out.trans hb (by simp))
            clear hb
            go_wp2_with fail
            go_ret
            exact ⟨rfl, HB6.out⟩
      · have HE := Lib.hid hE
        have h7' : (k == 7) = false := by simpa using h7
        clear hE h7
        go_wp2_with fail
        refine (newKind k key val ent _ HWF.out HE.out h7').mono ?_
        rintro e w2 ⟨rfl, hb2⟩
        have hh := hb2.heap HBX1.out (by simp)
        have HB2 : Hid (But [] w w2) := Lib.hid (HB1.out.trans hb2 (by simp))
        have d0 : w2.cell? ⟨w.heap.size, 0, none⟩ = some (.int .u8 k) := cl_of hh 0
        have d1 : w2.cell? ⟨w.heap.size, 1, none⟩ = some (.int .i64 key) := cl_of hh 1
        have d2 : w2.cell? ⟨w.heap.size, 2, none⟩ = some (.int .i64 val) := cl_of hh 2
        have d3 : w2.cell? ⟨w.heap.size, 3, none⟩ = some (.int .i64 ent) := cl_of hh 3
        clear hh hb2 c0 c1 c2 c3 HBX1
        go_wp2_with fail
        refine (refNewKind k key val ent _ HE.out h7').mono ?_
        rintro e w3 ⟨rfl, hb3⟩
        have HB3 : Hid (But [] w w3) := Lib.hid (HB2.out.trans hb3 (by simp))
        clear hb3
        go_wp2_with fail
        refine (awake _).mono ?_
        rintro e w4 ⟨rfl, hb⟩
        have HB4 : Hid (But [] w w4) := Lib.hid (HB3.out.trans hb (by simp))
        clear hb
        go_wp2_with fail
        go_ret
        exact ⟨rfl, HB4.out⟩
    · obtain ⟨E, hEE⟩ : ∃ E, specE k key val ent = E := ⟨_, rfl⟩
      rw [hEE] at hE
      have h0 : (E == 0) = false := by simpa using hE
      have h0' : (E != E) = false := by simp
      have HE := Lib.hid hEE
      clear hE hEE
      go_wp2_with fail
      refine (newErr k key val ent E _ HWF.out HE.out h0).mono ?_
      rintro e w2 ⟨rfl, hb2⟩
      have hh := hb2.heap HBX1.out (by simp)
      have HB2 : Hid (But [] w w2) := Lib.hid (HB1.out.trans hb2 (by simp))
      have d0 : w2.cell? ⟨w.heap.size, 0, none⟩ = some (.int .u8 k) := cl_of hh 0
      have d1 : w2.cell? ⟨w.heap.size, 1, none⟩ = some (.int .i64 key) := cl_of hh 1
      have d2 : w2.cell? ⟨w.heap.size, 2, none⟩ = some (.int .i64 val) := cl_of hh 2
      have d3 : w2.cell? ⟨w.heap.size, 3, none⟩ = some (.int .i64 ent) := cl_of hh 3
      clear hh hb2 c0 c1 c2 c3 HBX1
      go_wp2_with fail
      refine (refNewErr k key val ent E _ HE.out h0).mono ?_
      rintro e w3 ⟨rfl, hb3⟩
      have HB3 : Hid (But [] w w3) := Lib.hid (HB2.out.trans hb3 (by simp))
      clear hb3
      go_wp2_with fail
      refine (awake _).mono ?_
      rintro e w4 ⟨rfl, hb⟩
      have HB4 : Hid (But [] w w4) := Lib.hid (HB3.out.trans hb (by simp))
      clear hb
      go_wp2_with fail
      go_ret
      exact ⟨rfl, HB4.out⟩
theorem ringLives_walk (w : World) (s : MSpec) (v : Value) (l : List Deed) (hw : (Lit.int .u8 s.k).wf = true ∧ (Lit.int .i64 s.key).wf = true ∧ (Lit.int .i64 s.val).wf = true ∧ (Lit.int .i64 s.ent).wf = true) (hs : SeesDeeds w v l) (hl : l.length ≤ 4398046510976) :
    Calls Try.prog 3 #[s.v, v] w fun e w' => e = .returned (.bool true) ∧ Below w.heap.size w w' :=
  (ringLives s.k s.key s.val s.ent v l w hw.1 hs hl).mono fun _ _ ⟨he, hb⟩ => ⟨he, hb.below (Nat.le_refl _) (by simp)⟩
end Go.Proofs.Ytlajffbjkgedhaa.M
