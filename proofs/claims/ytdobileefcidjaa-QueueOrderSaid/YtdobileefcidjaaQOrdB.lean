/-
  'QueueOrder' tells true: the walk.
-/
import Derived.Test.YtdobileefcidjaaQOrd
import Derived.Test.YtdobileefcidjaaQueAwake
import Derived.Test.YtdobileefcidjaaPick
import Derived.Deep.DeepCutAuto
import Derived.Deep.CutBlock
import Derived.Deep.DrawnRows
namespace Go.Proofs.Ytdobileefcidjaa.M
open Go.RowKit Go.Shelf
set_option linter.unusedVariables false
set_option linter.unusedSectionVars false
set_option linter.unusedSimpArgs false
attribute [local go_sem ↓] Go.wp_at_zero Go.wp_at_succ
/-- At the head of a round of the first loop. -/
def OHead (w : World) (Q sb : Nat) (stack : Bool) (val ent : Int) (k : Nat) (all : Value) (wr : World) : Prop := ∃ col rs vals, QOrd w Q sb stack val ent col all wr rs rs vals ∧ (rs.length : Int) ≤ ent ∧ rs.length ≤ k
/-- What is left behind k rounds. -/
def restOf (stack : Bool) (rs : List (List Value)) (k : Nat) : List (List Value) := if stack then rs.take (rs.length - k) else rs.drop k
theorem rest_start (stack : Bool) (rs : List (List Value)) : restOf stack rs 0 = rs := by cases stack <;> simp [restOf]
theorem rest_end (stack : Bool) (rs : List (List Value)) : restOf stack rs rs.length = [] := by cases stack <;> simp [restOf]
theorem rest_len (stack : Bool) (rs : List (List Value)) (k : Nat) : (restOf stack rs k).length = rs.length - k := by cases stack <;> simp [restOf]
theorem calls_val' {P : Program} {k : FuncId} {args : Array Value} {w : World} {v v' : Value} {R : World → Prop} (h : Calls P k args w fun e w' => e = .returned v ∧ R w') (hv : v = v') : Calls P k args w fun e w' => e = .returned v' ∧ R w' := by
  subst hv; exact h
theorem box_kind (w : World) (a b c d u : Value) (t : TypeId) : ((w.alloc (.cells #[a, b, c, d] t)).setCell ⟨w.heap.size, 0, none⟩ u).heap[w.heap.size]? = some (.cells #[u, b, c, d] t) := by
  have h := al_at w (.cells #[a, b, c, d] t)
  simp only [World.setCell, Array.getElem?_modify, h]
  rfl
theorem rows_addr {w : World} {ra : Option Addr} {rc : Nat} {rv : List Value} (h : Sees w (.slice ra rv.length rc) rv) {k : Nat} {x : Value} (hx : rv[k]? = some x) : ∃ ad, ra = some ad ∧ w.cell? (ad.add k) = some x := by
  rcases h with ⟨h, rfl⟩ | ⟨ad, c, h, hc, hj⟩
  · simp at hx
  · simp only [Value.slice.injEq] at h
    exact ⟨ad, h.1, hj k x hx⟩
theorem sees_take {w : World} {xa : Option Addr} {xc n : Nat} {xs : List Value} (h : Sees w (.slice xa xs.length xc) xs) (h0 : 0 < (xs.take n).length) : ∃ ad, xa = some ad ∧ ∀ j v, (xs.take n)[j]? = some v → w.cell? (ad.add j) = some v := by
  rcases h with ⟨h, rfl⟩ | ⟨ad, c, h, hc, hj⟩
  · simp at h0
  · simp only [Value.slice.injEq] at h
    exact ⟨ad, h.1, fun j v hv => hj j v (by
      rw [List.getElem?_take] at hv
      split at hv
      · exact hv
      · cases hv)⟩
/-- The row that was copied. -/
theorem QOrd.copied {w wr w5 : World} {Q sb n : Nat} {stack : Bool} {ent : Int} {col : Nat → Nat} {all : Value} {rs : List (List Value)} {vals cs : List Value} {o : Obj} (h : QOrd w Q sb stack n ent col all wr rs rs vals) (hn : n ≤ 40) (hc : cs.length ≤ n) (hb : IsBytes cs) (hg : w5.heap[wr.heap.size]? = some (.cells (splice (madeCells #[.int .u8 0] n).toList 0 cs).toArray 5 (0, 0))) (hb5 : But [wr.heap.size] (wr.alloc o) w5) :
    ∃ r, OwnQ w5 5 (.slice (some ⟨wr.heap.size, 0, none⟩) n n) r ∧ IsBytes r ∧ r.length = n ∧ QOrd w Q sb stack n ent (dye col wr.heap.size 4) all w5 rs rs vals := by
  obtain ⟨h1, h2, h3⟩ := M.copied (w := wr) hc hb (by unfold maxLen; omega) hg
  exact ⟨_, h1, h2, h3, ((h.dyed 4).new ((But.refl [] wr).alloc o)).made hb5 (fun x hx => by simp only [List.mem_singleton] at hx; subst hx; exact dye_new (Nat.le_refl _))⟩
def idxOf (stack : Bool) (n k : Nat) : Nat := if stack then n - 1 - k else k
theorem rest_next {stack : Bool} {rs : List (List Value)} {k : Nat} (h : k < rs.length) : (restOf stack rs k)[nextAt stack (restOf stack rs k).length]? = rs[idxOf stack rs.length k]? := by
  rw [rest_len]
  cases stack with
  | false => simp [restOf, nextAt, idxOf]
  | true =>
    simp only [restOf, nextAt, idxOf, if_true]
    rw [List.getElem?_take, if_pos (by omega)]
    congr 1
    omega
theorem rest_pop {stack : Bool} {rs : List (List Value)} {k : Nat} (h : k < rs.length) : (restOf stack rs k).eraseIdx (nextAt stack (restOf stack rs k).length) = restOf stack rs (k + 1) := by
  rw [rest_len, List.eraseIdx_eq_take_drop_succ]
  cases stack with
  | false => simp [restOf, nextAt, List.drop_drop]
  | true =>
    simp only [restOf, nextAt, if_true]
    rw [List.take_take, Nat.min_eq_left (by omega), List.drop_of_length_le (by rw [List.length_take]; omega), List.append_nil]
    congr 1
theorem pushR_two {val ent : Int} {rq rs : List (List Value)} {r : List Value} (hv : (r.length : Int) = val) (h : (rq = rs ∧ (rs.length : Int) ≠ ent) ∨ ∃ r0, rq = r0 :: rs ∧ (rq.length : Int) = ent) : pushE val ent rq r 2 = 0 ∧ pushR val ent rq r 2 = rs ++ [r] := by
  have hc : ¬ ((r.length : Int) ≠ val ∨ ((2 : Int) ≠ 0 ∧ (2 : Int) ≠ 2)) := by rintro (h | ⟨_, h⟩); exact h hv; exact h rfl
  unfold pushE pushR
  rw [if_neg hc, if_neg hc, if_neg (fun h => absurd h.2 (by decide))]
  refine ⟨rfl, ?_⟩
  rcases h with ⟨rfl, h⟩ | ⟨r0, rfl, h⟩
  · rw [if_neg h]
  · rw [if_pos h, if_neg (by decide)]
    rfl
theorem spec_ok (stack : Bool) (val ent : Int) (h1 : 1 ≤ val) (h2 : val ≤ 1024) (h3 : 1 ≤ ent) (h4 : ent ≤ 1024) : specE (kindOf stack) 0 val ent = 0 := by
  cases stack
  all_goals
    simp only [kindOf, if_true, if_false, Bool.false_eq_true, specE, rowB5, rowB6, rowE]
    rw [if_pos (by simp [inB, h1, h2, h3, h4])]
set_option maxRecDepth 100000 in
set_option maxHeartbeats 8000000 in
theorem queueOrder (value entries : Int) (stack : Bool) (v : Value) (rows : List (List Value)) (w : World) (hv : (Lit.int .i64 value).wf = true) (he : (Lit.int .i64 entries).wf = true) (hs : SeesRows w v rows) (hl : rows.length ≤ 140737488351232) (hb : ∀ r ∈ rows, IsBytes r ∧ r.length ≤ 140737488351232) :
    Calls Try.prog 6 #[.int .i64 value, .int .i64 entries, .bool stack, v] w fun e w' => e = .returned (.bool true) ∧ But [] w w' := by
  obtain ⟨i0, hi, hz0, hz1, hz2⟩ := info_parts (show (Try.prog.info? 36).map (fun i => (i.zero, i.size, i.bytes)) = some (some (.slice none 0 0), 1, 24) by kernel_rfl)
  obtain ⟨j0, ki, kz0, kz1, kz2⟩ := info_parts (show (Try.prog.info? 5).map (fun i => (i.zero, i.size, i.bytes)) = some (some (.int .u8 0), 1, 1) by kernel_rfl)
  obtain ⟨rv, hs1, hs2, hs3⟩ := hs
  have HS2 := Lib.hid hs2
  obtain ⟨ra, rc, e, hrc⟩ := sees_shape hs1
  subst e
  have HRV := Lib.hid hs1
  have HRE := Lib.hid hs3
  have HRB := Lib.hid hb
  have HVB := Lib.hid (lit_bounds hv)
  have HEB := Lib.hid (lit_bounds he)
  have hrvl : rv.length ≤ 140737488351232 := by omega
  clear hs1 hs2 hs3 hb hv he hrc
  go_enter Try.func6, Try.ntmps6
  go_wp2_with fail
  refine (awake _).mono ?_
  rintro e w1 ⟨rfl, hb1⟩
  have HB1 := Lib.hid hb1
  clear hb1
  by_cases hlong : 100 < rv.length
  · have hlong' : (100 : Int) < rv.length := by omega
    go_wp2_with fail
    go_ret
    exact ⟨rfl, HB1.out⟩
  · have hlong' : ¬ (100 : Int) < rv.length := by omega
    go_wp2_with fail
    refine (pick value 40 _ (by omega) (by omega) HVB.out.1 HVB.out.2).mono ?_
    rintro e w1' ⟨rfl, rfl⟩
    obtain ⟨pv, hpv⟩ : ∃ p, p = value % 40 := ⟨_, rfl⟩
    have hpv0 : 0 ≤ pv ∧ pv < 40 := by omega
    rw [← hpv]
    clear hpv
    go_wp2_with fail
    refine (pick entries 110 _ (by omega) (by omega) HEB.out.1 HEB.out.2).mono ?_
    rintro e w1' ⟨rfl, rfl⟩
    obtain ⟨pe, hpe⟩ : ∃ p, p = entries % 110 := ⟨_, rfl⟩
    have hpe0 : 0 ≤ pe ∧ pe < 110 := by omega
    rw [← hpe]
    clear hpe
    obtain ⟨n, hn⟩ : ∃ n : Nat, 1 + pv = (n : Int) := ⟨(1 + pv).toNat, by omega⟩
    obtain ⟨ent, hent⟩ : ∃ ent : Int, ent = 1 + pe := ⟨_, rfl⟩
    obtain ⟨sb, hsb⟩ : ∃ sb, sb = w1.heap.size := ⟨_, rfl⟩
    have hn1 : 1 ≤ n ∧ n ≤ 40 := by omega
    have he1 : 1 ≤ ent ∧ ent ≤ 110 := by omega
    have HN := Lib.hid hn
    have HENT := Lib.hid hent
    have HSB := Lib.hid hsb
    clear hn hent hsb
    go_upto_if 35 with fail
    go_cut [] (fun wx => wx.heap[sb]? = some (.cells #[.int .u8 (kindOf stack), .int .i64 0, .int .i64 n, .int .i64 ent] 24) ∧ But [] w1 wx)
    case first =>
      rw [HN.out, ← HENT.out]
      cases stack with
      | false =>
        go_wp2_with fail
        go_meet
        exact ⟨by rw [HSB.out]; exact al_at _ _, (But.refl _ _).alloc _⟩
      | true =>
        go_wp2_with fail
        go_meet
        exact ⟨by rw [HSB.out]; exact al_at _ _, (But.refl _ _).alloc _⟩
    case rest =>
      obtain ⟨hbox, hbc⟩ := hcut
      rw [← HSB.out]
      have c0 : wc.cell? ⟨sb, 0, none⟩ = some (.int .u8 (kindOf stack)) := cl_of hbox 0
      have c1 : wc.cell? ⟨sb, 1, none⟩ = some (.int .i64 0) := cl_of hbox 1
      have c2 : wc.cell? ⟨sb, 2, none⟩ = some (.int .i64 n) := cl_of hbox 2
      have c3 : wc.cell? ⟨sb, 3, none⟩ = some (.int .i64 ent) := cl_of hbox 3
      have hsbl := lt_of hbox
      have HBOX := Lib.hid hbox
      have HBC := Lib.hid hbc
      clear hbox hbc
      go_wp2_with fail
      refine (newBoth stack n ent _ (spec_ok stack n ent (by omega) (by omega) (by omega) (by omega)) (fun b => wc.heap.size ≤ b) (fun b hb => hb)).mono ?_
      rintro e w2 ⟨Q, rfl, hS2, hb2⟩
      have HO0 : Hid (OHead w Q sb stack n ent 0 (.slice none 0 0) w2) := Lib.hid ⟨dye (fun b => if b = sb then 5 else 0) wc.heap.size 1, [], [], { low := (fun b hb => by have h1 := HB1.out.size; have h2 := HSB.out; rw [dye_old (by have := HBC.out.size; omega)]; exact if_neg (by omega)), box := hb2.heap HBOX.out (by simp), boxcol := (by rw [dye_old hsbl]; exact if_pos rfl), queue := hS2.also (fun b _ hk => dye_new hk), allq := OwnQ.nil _ _, allcol := (fun b hb => by cases hb), len := rfl, each := (fun j v r hv => by simp at hv), rows := (fun r hr => by cases hr), but := (HB1.out.trans HBC.out (by simp)).trans hb2 (by simp) }, by simp; omega, Nat.le_refl _⟩
      clear hS2 hb2 c0 c1 c2 c3 HBOX HBC hsbl
      go_upto_block 0 with fail
      go_cut [12] (fun all wx => OHead w Q sb stack n ent rv.length all wx)
      case first =>
        go_wp2_with fail
        go_loopw [12, 13] (fun all i wr => ∃ k : Nat, k ≤ rv.length ∧ i = .int .i64 k ∧ OHead w Q sb stack n ent k all wr) (fun _ i _ => rv.length - (intOf i).toNat)
        case atStart => exact ⟨0, Nat.zero_le _, rfl, HO0.out⟩
        case round =>
          obtain ⟨k, hk, rfl, col, rs, vals, hO, hle, hlk⟩ := hrel
          obtain ⟨aa, ac, rfl⟩ := hO.allq.form
          have HO := Lib.hid hO
          have HLEN := Lib.hid hO.len
          have hvk : vals.length ≤ k := by have := hO.len; omega
          clear hO HO0
          by_cases hlt : k < rv.length
          · obtain ⟨x, hx⟩ : ∃ x, rv[k]? = some x := ⟨_, List.getElem?_eq_getElem hlt⟩
            obtain ⟨rr, hrr⟩ : ∃ rr, rows[k]? = some rr := ⟨_, List.getElem?_eq_getElem (by have := HS2.out; omega)⟩
            have hsx := HRE.out k x rr hx hrr
            obtain ⟨xa, xc, rfl⟩ := sl_of hsx
            obtain ⟨ad, rfl, hrc⟩ := rows_addr HRV.out hx
            have HSX := Lib.hid hsx
            have HXB := Lib.hid (HRB.out rr (List.mem_of_getElem? hrr)).1
            have hbw := HO.out.but
            have g1 : wr.cell? (ad.add k) = some (.slice xa rr.length xc) := cell_but hbw hrc (by simp)
            have hadl := cell_lt g1
            have c2 : wr.cell? ⟨sb, 2, none⟩ = some (.int .i64 n) := cl_of HO.out.box 2
            have hsbl := lt_of HO.out.box
            have hk0 : (0 : Int) ≤ k := by omega
            have hk1 : (k : Int) < rv.length := by omega
            have hmk : ∀ w, (Instr.makeSlice 36 (.int .i64 (n : Int)) (.int .i64 (n : Int))).run Try.prog w = .ok (.slice (some ⟨w.heap.size, 0, none⟩) n n) (w.alloc (.cells (madeCells #[.int .u8 0] n) 5)) := fun w => by
              have h := run_make (P := Try.prog) w 36 5 j0 (.int .u8 0) Try.underlying36 ki kz0 .i64 .i64 (n : Int) (n : Int) (by omega) (by omega) (by rw [kz2]; omega) (by omega)
              rw [h, kz1]
              simp only [Int.toNat_natCast, Nat.mul_one]
              rfl
            have HG0 : Hid ((wr.alloc (.cells (madeCells #[.int .u8 0] n) 5)).heap[wr.heap.size]? = some (.cells (madeCells #[.int .u8 0] n).toList.toArray 5 (0, 0))) := Lib.hid (by rw [Array.toArray_toList]; exact al_at _ _)
            have HLN : Hid ((rr.take n).length = Nat.min rr.length n) := Lib.hid (by rw [List.length_take]; exact Nat.min_comm _ _)
            have HPOS : Hid (0 < (rr.take n).length → ∃ ad, xa = some ad ∧ ∀ j v, (rr.take n)[j]? = some v → (wr.alloc (.cells (madeCells #[.int .u8 0] n) 5)).cell? (ad.add j) = some v) := Lib.hid fun h => sees_take (HSX.out.but (hbw.alloc _) (by simp)) h
            have HFIT : Hid (0 + (rr.take n).length ≤ (madeCells #[.int .u8 0] n).toList.length) := Lib.hid (by rw [List.length_take]; simp [madeCells]; omega)
            have H1C : Hid (∀ v ∈ rr.take n, v.oneCell' = true) := Lib.hid fun v hv => HXB.out.one v (List.mem_of_mem_take hv)
            have HTK : Hid ((rr.take n).length ≤ n ∧ IsBytes (rr.take n)) := Lib.hid ⟨by rw [List.length_take]; omega, fun v hv => HXB.out v (List.mem_of_mem_take hv)⟩
            have KEYC := Lib.hid (fun (w5 : World) (hg : w5.heap[wr.heap.size]? = some (.cells (splice (madeCells #[.int .u8 0] n).toList 0 (rr.take n)).toArray 5 (0, 0))) (hb5 : But [wr.heap.size] (wr.alloc (.cells (madeCells #[.int .u8 0] n) 5)) w5) => HO.out.copied hn1.2 HTK.out.1 HTK.out.2 hg hb5)
            clear hx hrr hsx hrc hbw
            go_upto_if 63 with ((with_reducible refine (show wpList _ _ _ (⟨some 58, _, _, _, _, _⟩ :: _) _ _ from ?_)); refine wpList_copy_but rfl (.tmp 53) (.tmp 57) 36 36 rfl 5 Try.underlying36 (by kernel_rfl) (some ⟨wr.heap.size, 0, none⟩) xa n n rr.length xc rfl rfl wr.heap.size 0 (madeCells #[.int .u8 0] n).toList 5 HG0.out (rr.take n) HLN.out (fun h => ⟨rfl, HPOS.out h⟩) HFIT.out H1C.out ?_; intro w5 hg5 hb5; obtain ⟨r, hv5, hrb, hrl, hO5⟩ := KEYC.out w5 hg5 hb5; have HV5 := Lib.hid hv5; have HRBY := Lib.hid hrb; have HO5 := Lib.hid hO5; have c3 : w5.cell? ⟨sb, 3, none⟩ = some (.int .i64 ent) := cl_of HO5.out.box 3; clear hg5 hb5 hv5 hrb hO5)
            have hgsz : w.heap.size ≤ wr.heap.size := HO.out.but.size
            have hcg : dye col wr.heap.size 4 wr.heap.size = 4 := dye_new (Nat.le_refl _)
            obtain ⟨col4, hcol4⟩ : ∃ col4, col4 = dye col wr.heap.size 4 := ⟨_, rfl⟩
            rw [← hcol4] at HO5 hcg
            go_cut [12] (fun all' wx => ∃ col' rq rs' vals', QOrd w Q sb stack n ent col' all' wx rq rs' vals' ∧ col' wr.heap.size = 4 ∧ OwnQ wx 5 (.slice (some ⟨wr.heap.size, 0, none⟩) n n) r ∧ ((rq = rs' ∧ (rs'.length : Int) ≠ ent) ∨ ∃ r0, rq = r0 :: rs' ∧ (rq.length : Int) = ent) ∧ (rs'.length : Int) < ent ∧ rs'.length ≤ k)
            case first =>
              by_cases hfull : (vals.length : Int) = ent
              · rw [show ((vals.length : Int) == ent) = true by simpa using hfull]
                cases vals with
                | nil => simp at hfull; omega
                | cons v0 vs =>
                  cases rs with
                  | nil => exact absurd HLEN.out (by simp)
                  | cons r0 rs =>
                    obtain ⟨g2, o2, rfl⟩ := HO5.out.allq.addr (by simp)
                    have hb63 : ((vs.length : Int) + 1 == ent) = true := by simpa using hfull
                    have hlr : rs.length = vs.length := by simpa using HLEN.out.symm
                    have hfq : (((r0 :: rs).length : Nat) : Int) = ent := by rw [← HLEN.out]; exact hfull
                    have HFQ := Lib.hid hfq
                    have hq5 := HO5.out.allq
                    have hacl : vs.length + 1 ≤ ac := by
                      rcases hq5 with ⟨h, _⟩ | ⟨_, _, _, _, h, _, h', _⟩
                      · cases h
                      · simp only [Value.slice.injEq] at h; obtain ⟨_, _, rfl⟩ := h; simpa using h'
                    have hrsk : rs.length ≤ k := by simp at hlk; omega
                    have hrse : (rs.length : Int) < ent := by simp at hfq; omega
                    clear hfull hfq hle hlk
                    by_cases hac : ac = 1
                    · subst hac
                      obtain rfl : vs = [] := List.eq_nil_of_length_eq_zero (by omega)
                      have hq6 := hq5.tail1 rfl
                      have HQ6 := Lib.hid hq6
                      replace hb63 : ((1 : Int) == ent) = true := hb63
                      clear hq5 hq6 hacl
                      go_wp2_with fail
                      refine (HO5.out.queue.pushFull _ n n rfl HFQ.out).mono ?_
                      rintro e w6 ⟨rfl, hb6⟩
                      have HB6 := Lib.hid hb6
                      clear hb6
                      go_wp2_with fail
                      go_meet
                      exact ⟨col4, r0 :: rs, rs, [], (HO5.out.new HB6.out).tail (HQ6.out.but HB6.out (by simp)) (fun b hb => hb), hcg, HV5.out.but HB6.out (by simp), .inr ⟨r0, rfl, HFQ.out⟩, hrse, hrsk⟩
                    · have hq6 := hq5.tail
                      have HQ6 := Lib.hid hq6
                      have hac1 : ¬ ac - 1 = 0 := by omega
                      have hac2 : (1 : Nat) ≤ ac := by omega
                      clear hq5 hq6
                      go_wp2_with fail
                      refine (HO5.out.queue.pushFull _ n n rfl HFQ.out).mono ?_
                      rintro e w6 ⟨rfl, hb6⟩
                      have HB6 := Lib.hid hb6
                      clear hb6
                      go_wp2_with fail
                      go_meet
                      exact ⟨col4, r0 :: rs, rs, vs, (HO5.out.new HB6.out).tail (HQ6.out.but HB6.out (by simp)) (fun b hb => hb), hcg, HV5.out.but HB6.out (by simp), .inr ⟨r0, rfl, HFQ.out⟩, hrse, hrsk⟩
              · have hb63 : ((vals.length : Int) == ent) = false := by simpa using hfull
                have hne : (rs.length : Int) ≠ ent := by rw [← HLEN.out]; exact hfull
                go_wp2_with fail
                go_meet
                exact ⟨col4, rs, rs, vals, HO5.out, hcg, HV5.out, .inl ⟨rfl, hne⟩, by omega, hlk⟩
            case rest =>
              obtain ⟨col', rq, rs', vals', hOc, hcg', hvc, hor, hlt', hlk'⟩ := hcut
              obtain ⟨aa', ac', rfl⟩ := hOc.allq.form
              have HOC := Lib.hid hOc
              have HVC := Lib.hid hvc
              have HR2 := Lib.hid (pushR_two (val := n) (by omega) hor : pushE n ent rq r 2 = 0 ∧ pushR n ent rq r 2 = rs' ++ [r])
              have hvl' : vals'.length ≤ 110 := by have := hOc.len; omega
              have hrql : rq.length ≤ 1000000 := by rcases hor with ⟨rfl, _⟩ | ⟨r0, rfl, h⟩; omega; omega
              have HGL : Hid (wr.heap.size < wc.heap.size) := Lib.hid (hvc.lt rfl)
              clear hOc hvc hor HO5 HV5 c3 hcg hcol4 HO KEYC
              go_wp2_with fail
              refine (QueueS.pushAll (ok := fun b => dye col' wc.heap.size 1 b = 1) ((HOC.out.dyed 1).queue) 2 HVC.out.sees (fun _ b hb e => by cases hb; have h1 := HOC.out.queue.okQ; rw [← e] at h1; have h2 : col' wr.heap.size = 1 := h1; omega) HRBY.out (by omega) (by omega) (by omega) hrql (fun b hb => dye_new hb) HR2.out.1).mono ?_
              rintro e w6 ⟨rfl, hQ6, L6, hL6, hb6⟩
              rw [HR2.out.2] at hQ6
              have HO6 := Lib.hid ((HOC.out.dyed 1).queueTurn hb6 hL6 hQ6)
              have HV6 : Hid (OwnQ w6 5 (.slice (some ⟨wr.heap.size, 0, none⟩) n n) r) := Lib.hid (HVC.out.but hb6 (fun b hb hm => by
                have h1 := hL6 b hm
                cases hb
                have h2 : dye col' wc.heap.size 1 wr.heap.size = 1 := h1
                rw [dye_old HGL.out] at h2
                omega))
              have HCG : Hid (dye col' wc.heap.size 1 wr.heap.size = 4) := Lib.hid (by rw [dye_old HGL.out]; exact hcg')
              have HQ7 : Hid (OwnQ (w6.alloc (.cells #[.slice (some ⟨wr.heap.size, 0, none⟩) n n] 36)) 36 (.slice aa' vals'.length ac') vals') := Lib.hid (HO6.out.allq.but ((But.refl [] _).alloc _) (by simp))
              have KEYA : Hid (∀ (v' : Value) (w9 : World), Appended (w6.alloc (.cells #[.slice (some ⟨wr.heap.size, 0, none⟩) n n] 36)) w9 36 (.slice aa' vals'.length ac') v' vals' [.slice (some ⟨wr.heap.size, 0, none⟩) n n] → ∃ a c, v' = Value.slice a (vals'.length + 1) c ∧ OHead w Q sb stack n ent (k + 1) v' w9) := Lib.hid fun v' w9 hap => by
                obtain ⟨a, c, e⟩ := hap.1.form
                obtain ⟨col9, h9⟩ := HO6.out.add rfl HV6.out ⟨HRBY.out, by omega⟩ HCG.out hap
                exact ⟨a, c, by rw [e, List.length_append]; rfl, col9, _, _, h9, by rw [List.length_append]; simp; omega, by rw [List.length_append]; simp; omega⟩
              have HSRC := Lib.hid (src_one hz1 w6 (some ⟨wr.heap.size, 0, none⟩) n n)
              clear hQ6 hL6 hb6 HOC HVC HO6 HV6
              go_wp2_with (at_builtin; refine wpList_append_row (by rfl) _ _ 35 (by rfl) 36 i0 (.slice none 0 0) 24 Try.underlying35 hi hz0 hz1 hz2 rfl _ vals' (by rfl) HQ7.out [Value.slice (some ⟨wr.heap.size, 0, none⟩) n n] _ (by rfl) HSRC.out (by unfold maxLen; have h0 : ∀ x : Value, [x].length = 1 := fun _ => rfl; rw [h0]; omega) (by have h0 : ∀ x : Value, [x].length = 1 := fun _ => rfl; rw [h0]; omega) ?_; intro v' w9 hap; obtain ⟨a9, c9, rfl, h9⟩ := KEYA.out _ _ hap; have H9 := Lib.hid h9; clear hap h9)
              go_roundw
              case rel => exact ⟨k + 1, by omega, by go_num, H9.out⟩
              case measure => simp [intOf]; omega
          · obtain rfl : k = rv.length := by omega
            have HH : Hid (OHead w Q sb stack n ent rv.length (.slice aa vals.length ac) wr) := Lib.hid ⟨col, rs, vals, HO.out, hle, hlk⟩
            go_wp2_with fail
            go_meet
            exact HH.out
      case rest =>
        obtain ⟨col, rs, vals, hO, hle, hlk⟩ := hcut
        obtain ⟨aa, ac, rfl⟩ := hO.allq.form
        have HO := Lib.hid hO
        have HLEN := Lib.hid hO.len
        have hvb : vals.length ≤ 110 := by have := hO.len; omega
        clear hO HO0 hle hlk
        cases stack with
        | false =>
          go_wp2_with fail
          go_loopw [15] (fun i wr => ∃ k : Nat, k ≤ vals.length ∧ i = .int .i64 k ∧ ∃ col, QOrd w Q sb false n ent col (.slice aa vals.length ac) wr (restOf false rs k) rs vals) (fun i _ => vals.length - (intOf i).toNat)
          case atStart => exact ⟨0, Nat.zero_le _, rfl, col, by rw [rest_start]; exact HO.out⟩
          case round =>
            obtain ⟨k, hk, rfl, col2, hO2⟩ := hrel
            have HO2 := Lib.hid hO2
            clear hO2 HO
            by_cases hlt : k < vals.length
            · have hrk : k < rs.length := by rw [← HLEN.out]; exact hlt
              obtain ⟨q, hq⟩ : ∃ q : Nat, (vals.length : Int) - 1 - k = (q : Int) := ⟨vals.length - 1 - k, by omega⟩
              have hid : idxOf false rs.length k = k := by rw [← HLEN.out]; simp [idxOf]; try omega
              have hil : k < vals.length := by omega
              obtain ⟨x, hx⟩ : ∃ x, vals[k]? = some x := ⟨_, List.getElem?_eq_getElem hil⟩
              obtain ⟨r, hr⟩ : ∃ r, rs[k]? = some r := ⟨_, List.getElem?_eq_getElem (by rw [← HLEN.out]; exact hil)⟩
              obtain ⟨y, hy⟩ : ∃ y, vals[k]? = some y := ⟨_, List.getElem?_eq_getElem hlt⟩
              obtain ⟨ry, hry⟩ : ∃ r, rs[k]? = some r := ⟨_, List.getElem?_eq_getElem hrk⟩
              obtain ⟨xa, xc, rfl⟩ := (HO2.out.each _ x r hx hr).1.form
              obtain ⟨ya, yc, rfl⟩ := (HO2.out.each _ y ry hy hry).1.form
              obtain ⟨hrb, hrv⟩ := HO2.out.rows r (List.mem_of_getElem? hr)
              have hrl : r.length = n := by omega
              obtain ⟨g, o, rfl⟩ := HO2.out.allq.addr (by omega)
              have ci : wr.cell? ⟨g, o + k, none⟩ = some (.slice xa r.length xc) := HO2.out.allq.cellAt hx
              have ck : wr.cell? ⟨g, o + k, none⟩ = some (.slice ya ry.length yc) := HO2.out.allq.cellAt hy
              have HRN : Hid ((restOf false rs k)[nextAt false (restOf false rs k).length]? = some r) := Lib.hid (by rw [rest_next hrk, hid]; exact hr)
              have HPP := Lib.hid (rest_pop (stack := false) hrk)
              have HRB := Lib.hid hrb
              have HX := Lib.hid hx
              have HR := Lib.hid hr
              have HRLN : Hid ((restOf false rs k).length ≤ 1000000) := Lib.hid (by rw [rest_len, ← HLEN.out]; omega)
              have HQN : Hid (((restOf false rs (k + 1)).length : Int) = q) := Lib.hid (by rw [rest_len, ← HLEN.out]; omega)
              have hk0 : (0 : Int) ≤ k := by omega
              have hk1 : (k : Int) < vals.length := by omega
              have hq0 : (0 : Int) ≤ q := by omega
              have hq1 : (q : Int) < vals.length := by omega
              have HRLE := Lib.hid hrl
              clear hx hr hy hry hrb hid hrk hrl
              go_wp2_with fail
              refine (HO2.out.queue.peek _ r HRN.out rfl HRLN.out HRB.out (by have := HRLE.out; omega)).mono ?_
              rintro e w5 ⟨v5, rfl, ho5, hn5, hb5⟩
              obtain ⟨a5, c5, rfl⟩ := own_form2 ho5
              have HO5 := Lib.hid ((HO2.out.dyed 3).new hb5)
              have HV5 := Lib.hid ho5.que
              have HC5 : Hid (∀ b, (Value.slice a5 r.length c5).ownBlock = some b → dye col2 wr.heap.size 3 b = 3) := Lib.hid fun b hb => dye_new (hn5 b hb)
              clear ho5 hn5 hb5
              go_wp2_with fail
              refine (QueueS.pop (ok := fun b => dye (dye col2 wr.heap.size 3) w5.heap.size 1 b = 1) ((HO5.out.dyed 1).queue) _ r HRN.out rfl HRLN.out HRB.out (by have := HRLE.out; omega) (fun b hb => dye_new hb)).mono ?_
              rintro e w6 ⟨v6, rfl, ho6, hn6, hQ6, hb6⟩
              obtain ⟨a6, c6, rfl⟩ := own_form2 ho6
              rw [HPP.out] at hQ6
              have hQc := (HO5.out.dyed 1).queue.okQ
              have HO6 := Lib.hid ((HO5.out.dyed 1).queueTurn hb6 (fun z hz => by simp only [List.mem_singleton] at hz; subst hz; exact hQc) hQ6)
              have HV6 : Hid (OwnQ w6 5 (.slice a5 r.length c5) r) := Lib.hid (HV5.out.but hb6 (fun b hb hm => by
                simp only [List.mem_singleton] at hm
                subst hm
                have h2 : dye (dye col2 wr.heap.size 3) w5.heap.size 1 b = 1 := hQc
                rw [dye_old (HV5.out.lt hb), HC5.out b hb] at h2
                omega))
              have HW6 := Lib.hid ho6.que
              clear ho6 hn6 hb6 hQ6 hQc
              go_wp2_with fail
              refine (same_yes _ _ r _ HV6.out.sees (HO6.out.each _ _ r HX.out HR.out).1.sees HRB.out (by have := HRLE.out; omega)).mono ?_
              rintro e w7 ⟨rfl, hb7⟩
              have HO7 := Lib.hid (HO6.out.new hb7)
              have HW7 := Lib.hid (HW6.out.but hb7 (by simp))
              clear hb7
              go_wp2_with fail
              refine (same_yes _ _ r _ HW7.out.sees (HO7.out.each _ _ r HX.out HR.out).1.sees HRB.out (by have := HRLE.out; omega)).mono ?_
              rintro e w8 ⟨rfl, hb8⟩
              have HO8 := Lib.hid (HO7.out.new hb8)
              clear hb8
              go_wp2_with fail
              refine (calls_val' (R := fun w' => w8 = w') HO8.out.queue.many (v' := .int .i64 q) (by rw [HQN.out])).mono ?_
              rintro e w9 ⟨rfl, rfl⟩
              go_wp2_with fail
              go_roundw
              case rel => exact ⟨k + 1, by omega, by go_num, _, HO8.out⟩
              case measure => simp [intOf]; omega
            · obtain rfl : k = vals.length := by omega
              have hz : restOf false rs vals.length = [] := by rw [HLEN.out]; exact rest_end _ _
              have hQ0 := HO2.out.queue
              rw [hz] at hQ0
              have HQ0 := Lib.hid hQ0
              clear hQ0 hz
              go_wp2_with fail
              refine (QueueS.popNone HQ0.out).mono ?_
              rintro e w5 ⟨rfl, rfl⟩
              go_wp2_with fail
              refine (calls_val' (R := fun w' => wr = w') (QueueS.many HQ0.out) (v' := .int .i64 0) rfl).mono ?_
              rintro e w6 ⟨rfl, rfl⟩
              go_wp2_with fail
              go_ret
              exact ⟨rfl, HO2.out.but⟩
        | true =>
          go_wp2_with fail
          go_loopw [15] (fun i wr => ∃ k : Nat, k ≤ vals.length ∧ i = .int .i64 k ∧ ∃ col, QOrd w Q sb true n ent col (.slice aa vals.length ac) wr (restOf true rs k) rs vals) (fun i _ => vals.length - (intOf i).toNat)
          case atStart => exact ⟨0, Nat.zero_le _, rfl, col, by rw [rest_start]; exact HO.out⟩
          case round =>
            obtain ⟨k, hk, rfl, col2, hO2⟩ := hrel
            have HO2 := Lib.hid hO2
            clear hO2 HO
            by_cases hlt : k < vals.length
            · have hrk : k < rs.length := by rw [← HLEN.out]; exact hlt
              obtain ⟨q, hq⟩ : ∃ q : Nat, (vals.length : Int) - 1 - k = (q : Int) := ⟨vals.length - 1 - k, by omega⟩
              have hid : idxOf true rs.length k = q := by rw [← HLEN.out]; simp [idxOf]; try omega
              have hil : q < vals.length := by omega
              obtain ⟨x, hx⟩ : ∃ x, vals[q]? = some x := ⟨_, List.getElem?_eq_getElem hil⟩
              obtain ⟨r, hr⟩ : ∃ r, rs[q]? = some r := ⟨_, List.getElem?_eq_getElem (by rw [← HLEN.out]; exact hil)⟩
              obtain ⟨y, hy⟩ : ∃ y, vals[k]? = some y := ⟨_, List.getElem?_eq_getElem hlt⟩
              obtain ⟨ry, hry⟩ : ∃ r, rs[k]? = some r := ⟨_, List.getElem?_eq_getElem hrk⟩
              obtain ⟨xa, xc, rfl⟩ := (HO2.out.each _ x r hx hr).1.form
              obtain ⟨ya, yc, rfl⟩ := (HO2.out.each _ y ry hy hry).1.form
              obtain ⟨hrb, hrv⟩ := HO2.out.rows r (List.mem_of_getElem? hr)
              have hrl : r.length = n := by omega
              obtain ⟨g, o, rfl⟩ := HO2.out.allq.addr (by omega)
              have ci : wr.cell? ⟨g, o + q, none⟩ = some (.slice xa r.length xc) := HO2.out.allq.cellAt hx
              have ck : wr.cell? ⟨g, o + k, none⟩ = some (.slice ya ry.length yc) := HO2.out.allq.cellAt hy
              have HRN : Hid ((restOf true rs k)[nextAt true (restOf true rs k).length]? = some r) := Lib.hid (by rw [rest_next hrk, hid]; exact hr)
              have HPP := Lib.hid (rest_pop (stack := true) hrk)
              have HRB := Lib.hid hrb
              have HX := Lib.hid hx
              have HR := Lib.hid hr
              have HRLN : Hid ((restOf true rs k).length ≤ 1000000) := Lib.hid (by rw [rest_len, ← HLEN.out]; omega)
              have HQN : Hid (((restOf true rs (k + 1)).length : Int) = q) := Lib.hid (by rw [rest_len, ← HLEN.out]; omega)
              have hk0 : (0 : Int) ≤ k := by omega
              have hk1 : (k : Int) < vals.length := by omega
              have hq0 : (0 : Int) ≤ q := by omega
              have hq1 : (q : Int) < vals.length := by omega
              have HRLE := Lib.hid hrl
              clear hx hr hy hry hrb hid hrk hrl
              go_wp2_with fail
              refine (HO2.out.queue.peek _ r HRN.out rfl HRLN.out HRB.out (by have := HRLE.out; omega)).mono ?_
              rintro e w5 ⟨v5, rfl, ho5, hn5, hb5⟩
              obtain ⟨a5, c5, rfl⟩ := own_form2 ho5
              have HO5 := Lib.hid ((HO2.out.dyed 3).new hb5)
              have HV5 := Lib.hid ho5.que
              have HC5 : Hid (∀ b, (Value.slice a5 r.length c5).ownBlock = some b → dye col2 wr.heap.size 3 b = 3) := Lib.hid fun b hb => dye_new (hn5 b hb)
              clear ho5 hn5 hb5
              go_wp2_with fail
              refine (QueueS.pop (ok := fun b => dye (dye col2 wr.heap.size 3) w5.heap.size 1 b = 1) ((HO5.out.dyed 1).queue) _ r HRN.out rfl HRLN.out HRB.out (by have := HRLE.out; omega) (fun b hb => dye_new hb)).mono ?_
              rintro e w6 ⟨v6, rfl, ho6, hn6, hQ6, hb6⟩
              obtain ⟨a6, c6, rfl⟩ := own_form2 ho6
              rw [HPP.out] at hQ6
              have hQc := (HO5.out.dyed 1).queue.okQ
              have HO6 := Lib.hid ((HO5.out.dyed 1).queueTurn hb6 (fun z hz => by simp only [List.mem_singleton] at hz; subst hz; exact hQc) hQ6)
              have HV6 : Hid (OwnQ w6 5 (.slice a5 r.length c5) r) := Lib.hid (HV5.out.but hb6 (fun b hb hm => by
                simp only [List.mem_singleton] at hm
                subst hm
                have h2 : dye (dye col2 wr.heap.size 3) w5.heap.size 1 b = 1 := hQc
                rw [dye_old (HV5.out.lt hb), HC5.out b hb] at h2
                omega))
              have HW6 := Lib.hid ho6.que
              clear ho6 hn6 hb6 hQ6 hQc
              go_wp2_with fail
              refine (same_yes _ _ r _ HV6.out.sees (HO6.out.each _ _ r HX.out HR.out).1.sees HRB.out (by have := HRLE.out; omega)).mono ?_
              rintro e w7 ⟨rfl, hb7⟩
              have HO7 := Lib.hid (HO6.out.new hb7)
              have HW7 := Lib.hid (HW6.out.but hb7 (by simp))
              clear hb7
              go_wp2_with fail
              refine (same_yes _ _ r _ HW7.out.sees (HO7.out.each _ _ r HX.out HR.out).1.sees HRB.out (by have := HRLE.out; omega)).mono ?_
              rintro e w8 ⟨rfl, hb8⟩
              have HO8 := Lib.hid (HO7.out.new hb8)
              clear hb8
              go_wp2_with fail
              refine (calls_val' (R := fun w' => w8 = w') HO8.out.queue.many (v' := .int .i64 q) (by rw [HQN.out])).mono ?_
              rintro e w9 ⟨rfl, rfl⟩
              go_wp2_with fail
              go_roundw
              case rel => exact ⟨k + 1, by omega, by go_num, _, HO8.out⟩
              case measure => simp [intOf]; omega
            · obtain rfl : k = vals.length := by omega
              have hz : restOf true rs vals.length = [] := by rw [HLEN.out]; exact rest_end _ _
              have hQ0 := HO2.out.queue
              rw [hz] at hQ0
              have HQ0 := Lib.hid hQ0
              clear hQ0 hz
              go_wp2_with fail
              refine (QueueS.popNone HQ0.out).mono ?_
              rintro e w5 ⟨rfl, rfl⟩
              go_wp2_with fail
              refine (calls_val' (R := fun w' => wr = w') (QueueS.many HQ0.out) (v' := .int .i64 0) rfl).mono ?_
              rintro e w6 ⟨rfl, rfl⟩
              go_wp2_with fail
              go_ret
              exact ⟨rfl, HO2.out.but⟩
theorem queueOrder_walk (w : World) (value entries : Int) (stack : Bool) (v : Value) (rows : List (List Value)) (hv : (Lit.int .i64 value).wf = true) (he : (Lit.int .i64 entries).wf = true) (hs : SeesRows w v rows) (hl : rows.length ≤ 140737488351232) (hb : ∀ r ∈ rows, IsBytes r ∧ r.length ≤ 140737488351232) :
    Calls Try.prog 6 #[.int .i64 value, .int .i64 entries, .bool stack, v] w fun e w' => e = .returned (.bool true) ∧ Below w.heap.size w w' :=
  (queueOrder value entries stack v rows w hv he hs hl hb).mono fun _ _ ⟨he, hb⟩ => ⟨he, hb.below (Nat.le_refl _) (by simp)⟩
end Go.Proofs.Ytdobileefcidjaa.M
