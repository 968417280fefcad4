/-
  The reference's array: Lookup, Update, Value, Set, New.
-/
import Derived.Test.YtkgoblpddjpcnaaGreatRefAP
import Derived.Test.YtkgoblpddjpcnaaGreatRefSpec
import Derived.Test.YtkgoblpddjpcnaaGreatRow
import Derived.StillTailTactics
import Derived.Deep.RegionHeld3
import Derived.Deep.DrawnRows
import Derived.BigQuiet
namespace Go.Proofs.YtkgoblpddjpcnaaGreat.M
open Go.RowKit Go.Shelf
set_option linter.unusedVariables false
set_option linter.unusedSectionVars false
set_option linter.unusedSimpArgs false
set_option maxRecDepth 10000
attribute [local go_sem ↓] Go.wp_at_zero Go.wp_at_succ
section
variable {w : World} {ok : Nat → Prop} {X val : Nat} {rows : List (List Value)}
set_option maxHeartbeats 1000000 in
theorem refLookup_all (h : RefA w ok X val rows) (s : Value) (ks : List Int) (hs : Sees w s (u8s ks)) (hb : InB ks) :
    Calls Tryz.prog 27 #[.pointer (some ⟨X, 0, none⟩), s] w fun e w' => e = .returned (.tuple #[.int .i64 (lookN rows.length ks), .int .i64 (lookE rows.length ks)]) ∧ But [] w w' := by
  obtain ⟨hX, ⟨B, h1, h2, h3⟩, h4, h5, h6⟩ := h
  cases hk : keyI ks with
  | none =>
    obtain ⟨a, c, rfl⟩ := form_of hs
    have hn := keyI_not hk
    simp only [lookN, lookE, hk]
    rw [u8s_len]
    have hne : ¬ (ks.length : Int) = 4 := by omega
    have hne2 : ((ks.length : Int) == 4) = false := by simp; omega
    clear h1 h2 h3 h4 hs hb hk
    go_enter Tryz.func27, Tryz.ntmps27
    go_wp2_with fail
    go_ret2
    exact ⟨rfl, But.refl _ _⟩
  | some p =>
    obtain ⟨a, b, c, d, rfl, rfl⟩ := keyI_four hk
    obtain ⟨ad, cc, rfl, hK⟩ := key_of hs
    have ha := hb a (by simp); have hb' := hb b (by simp); have hc := hb c (by simp); have hd := hb d (by simp)
    simp only [lookN, lookE, hk]
    have c0 : w.cell? ad = some (.int .u8 a) := by have h := hK.at' 0 a rfl; rwa [show ad.add 0 = ad from by simp [Addr.add]] at h
    have c1 : w.cell? ⟨ad.block, ad.off + 1, none⟩ = some (.int .u8 b) := by have h := hK.at' 1 b rfl; rwa [show ad.add 1 = ⟨ad.block, ad.off + 1, none⟩ from by simp [Addr.add]] at h
    have c2 : w.cell? ⟨ad.block, ad.off + 2, none⟩ = some (.int .u8 c) := by have h := hK.at' 2 c rfl; rwa [show ad.add 2 = ⟨ad.block, ad.off + 2, none⟩ from by simp [Addr.add]] at h
    have c3 : w.cell? ⟨ad.block, ad.off + 3, none⟩ = some (.int .u8 d) := by have h := hK.at' 3 d rfl; rwa [show ad.add 3 = ⟨ad.block, ad.off + 3, none⟩ from by simp [Addr.add]] at h
    have x3 : w.cell? ⟨X, 3, none⟩ = some (.int .i64 rows.length) := cl_of h1 3
    have wa : IntKind.i64.wrap a = a := by rw [IntKind.wrap_i64]; omega
    have wb : IntKind.i64.wrap b = b := by rw [IntKind.wrap_i64]; omega
    have wc : IntKind.i64.wrap c = c := by rw [IntKind.wrap_i64]; omega
    have wd : IntKind.i64.wrap d = d := by rw [IntKind.wrap_i64]; omega
    have hkn : keyNum a b c d = a + b * 256 + c * 65536 + d * 16777216 := by unfold keyNum; omega
    obtain ⟨p, hp⟩ : ∃ p, p = a + b * 256 + c * 65536 + d * 16777216 := ⟨_, rfl⟩
    rw [hkn, ← hp]
    have HP := Lib.hid hp
    clear h1 h2 h3 h4 hs hb hk hK hkn hp
    by_cases hle : (rows.length : Int) ≤ p
    · rw [if_pos hle, if_pos hle]
      go_enter Tryz.func27, Tryz.ntmps27
      go_upto_region 3 with fail
      go_quiet (fail)
      rw [← HP.out]
      go_wp2_with fail
      go_ret2
      exact ⟨rfl, (But.refl [] w).drewN nq⟩
    · rw [if_neg hle, if_neg hle]
      go_enter Tryz.func27, Tryz.ntmps27
      go_upto_region 3 with fail
      go_quiet (fail)
      rw [← HP.out]
      go_wp2_with fail
      go_ret2
      exact ⟨rfl, (But.refl [] w).drewN nq⟩
set_option maxHeartbeats 2000000 in
theorem refUpdate_all (h : RefA w ok X val rows) (s t : Value) (ks bs : List Int) (f : Int) (hs : Sees w s (u8s ks)) (hb : InB ks) (ht : Sees w t (u8s bs)) :
    Calls Tryz.prog 26 #[.pointer (some ⟨X, 0, none⟩), s, t, .int .u64 f] w fun e w' => e = .returned (.int .i64 (updE rows.length val ks bs f)) ∧ RefA w' ok X val (updR val rows ks bs f) ∧ ∃ L, (∀ x ∈ L, ok x) ∧ But L w w' := by
  obtain ⟨a1, c1, rfl⟩ := form_of ht
  have H := Lib.hid h
  have x2 : w.cell? ⟨X, 2, none⟩ = some (.int .i64 val) := by obtain ⟨_, ⟨B, h1, _⟩, _⟩ := h; exact cl_of h1 2
  have hkeep : updE rows.length val ks bs f ≠ 0 → updR val rows ks bs f = rows := fun h0 => by
    unfold updR
    split
    · rfl
    · rw [if_neg h0]
  clear h
  cases hk : keyI ks with
  | none =>
    obtain ⟨a, c, rfl⟩ := form_of hs
    have hn := keyI_not hk
    have e : updE rows.length val ks bs f = 2 := by simp only [updE, hk]
    have e2 := hkeep (by rw [e]; decide)
    rw [e, e2, u8s_len, u8s_len]
    have hne : ¬ (ks.length : Int) = 4 := by omega
    have hne2 : ((ks.length : Int) == 4) = false := by simp; omega
    clear hs hb hk ht e e2 hkeep
    go_enter Tryz.func26, Tryz.ntmps26
    go_wp2_with fail
    go_ret
    exact ⟨rfl, H.out, [], by simp, But.refl _ _⟩
  | some p =>
    obtain ⟨a, b, c, d, rfl, rfl⟩ := keyI_four hk
    obtain ⟨ad, cc, rfl, hK⟩ := key_of hs
    by_cases hm : bs.length ≠ val
    · have e : updE rows.length val [a, b, c, d] bs f = 2 := by simp only [updE, hk]; rw [if_pos (.inl hm)]
      have e2 := hkeep (by rw [e]; decide)
      rw [e, e2, u8s_len]
      have hne : ¬ (bs.length : Int) = val := by omega
      have hne2 : ((bs.length : Int) == val) = false := by simp; omega
      clear hs hb hk ht e e2 hkeep hK
      go_enter Tryz.func26, Tryz.ntmps26
      go_wp2_with fail
      go_ret
      exact ⟨rfl, H.out, [], by simp, But.refl _ _⟩
    · have hm' : bs.length = val := by omega
      subst hm'
      by_cases hf : 2 < f
      · have e : updE rows.length bs.length [a, b, c, d] bs f = 2 := by simp only [updE, hk]; rw [if_pos (.inr hf)]
        have e2 := hkeep (by rw [e]; decide)
        rw [e, e2, u8s_len]
        clear hs hb hk ht e e2 hkeep hK
        go_enter Tryz.func26, Tryz.ntmps26
        go_wp2_with fail
        go_ret
        exact ⟨rfl, H.out, [], by simp, But.refl _ _⟩
      · have hor : ¬ (bs.length ≠ bs.length ∨ 2 < f) := by omega
        have HL := Lib.hid (refLookup_all H.out (.slice (some ad) 4 cc) [a, b, c, d] hs hb)
        by_cases hp : (rows.length : Int) ≤ keyNum a b c d
        · have e : updE rows.length bs.length [a, b, c, d] bs f = 6 := by simp only [updE, hk]; rw [if_neg hor, if_pos hp]
          have e2 := hkeep (by rw [e]; decide)
          have e3 : lookE rows.length [a, b, c, d] = 6 := by simp only [lookE, hk]; rw [if_pos hp]
          have e4 : lookN rows.length [a, b, c, d] = 0 := by simp only [lookN, hk]; rw [if_pos hp]
          rw [e3, e4] at HL
          rw [e, e2, u8s_len]
          clear hs hb hk ht e e2 hkeep hK e3 e4 hor
          go_enter Tryz.func26, Tryz.ntmps26
          go_wp2_with fail
          refine HL.out.mono ?_
          rintro e w1 ⟨rfl, hb1⟩
          have HB1 := Lib.hid hb1
          clear hb1
          go_wp2_with fail
          go_ret
          exact ⟨rfl, H.out.keep HB1.out (by simp), [], by simp, HB1.out⟩
        · have e3 : lookE rows.length [a, b, c, d] = 0 := by simp only [lookE, hk]; rw [if_neg hp]
          have e4 : lookN rows.length [a, b, c, d] = keyNum a b c d := by simp only [lookN, hk]; rw [if_neg hp]
          rw [e3, e4] at HL
          have h0 := (sumK_key hb).2
          obtain ⟨j, hj⟩ : ∃ j : Nat, keyNum a b c d = (j : Int) := ⟨(keyNum a b c d).toNat, by omega⟩
          have hjl : j < rows.length := by omega
          by_cases hf1 : f = 1
          · have e : updE rows.length bs.length [a, b, c, d] bs f = 7 := by simp only [updE, hk]; rw [if_neg hor, if_neg hp, if_pos hf1]
            have e2 := hkeep (by rw [e]; decide)
            rw [e, e2, u8s_len]
            rw [hj] at HL
            subst hf1
            clear hs hb hk ht e e2 hkeep hK e3 e4 hor hj h0 hp
            go_enter Tryz.func26, Tryz.ntmps26
            go_wp2_with fail
            refine HL.out.mono ?_
            rintro e w1 ⟨rfl, hb1⟩
            have HB1 := Lib.hid hb1
            clear hb1
            go_wp2_with fail
            go_ret
            exact ⟨rfl, H.out.keep HB1.out (by simp), [], by simp, HB1.out⟩
          · have e : updE rows.length bs.length [a, b, c, d] bs f = 0 := by simp only [updE, hk]; rw [if_neg hor, if_neg hp, if_neg hf1]
            have e2 : updR bs.length rows [a, b, c, d] bs f = rows.set j (u8s bs) := by simp only [updR, hk]; rw [if_pos e, hj]; rfl
            obtain ⟨r, hr⟩ : ∃ r, rows[j]? = some r := ⟨_, List.getElem?_eq_getElem hjl⟩
            obtain ⟨B, h1, h2, h3⟩ := H.out.lies
            have hrl := H.out.lens r (List.mem_of_getElem? hr)
            have hroom := flat_room H.out.lens hr
            have hfl := flat_len H.out.lens
            obtain ⟨M, hM⟩ : ∃ M, M = bs.length * rows.length := ⟨_, rfl⟩
            obtain ⟨m, hmm⟩ : ∃ m : Nat, m = j * bs.length := ⟨_, rfl⟩
            have hMb : M ≤ 1048576 := by rw [hM]; exact Nat.le_trans (Nat.mul_le_mul H.out.pos.2 H.out.few) (by decide)
            have hMc : rows.length * bs.length = M := by rw [hM, Nat.mul_comm]
            rw [hMc, ← hmm] at hroom
            rw [hMc] at hfl
            have hjm : (j : Int) * (bs.length : Int) = (m : Int) := by rw [hmm]; simp
            have hpos := H.out.pos
            rw [e, e2, u8s_len]
            rw [hj] at HL
            have x2' : w.cell? ⟨X, 2, none⟩ = some (.int .i64 bs.length) := x2
            have x4 : w.cell? ⟨X, 4, none⟩ = some (.slice (some ⟨B, 0, none⟩) M M) := by rw [hM]; exact cl_of h1 4
            have HX1 := Lib.hid h1
            have HX2 := Lib.hid h2
            have HX3 := Lib.hid h3
            have HT : Hid (Sees w (.slice a1 bs.length c1) (u8s bs)) := Lib.hid (by rw [u8s_len] at ht; exact ht)
            have HR := Lib.hid hr
            have HMM := Lib.hid hmm
            have HRL := Lib.hid hrl
            clear hs hb hk ht e e2 hkeep hK e3 e4 hor hj h0 hp hM hmm hMc h1 h2 h3 hr hrl x2
            go_enter Tryz.func26, Tryz.ntmps26
            go_wp2_with fail
            refine HL.out.mono ?_
            rintro e w1 ⟨rfl, hb1⟩
            have y2 := cell_but hb1 x2' (by simp)
            have y4 := cell_but hb1 x4 (by simp)
            have HB1 := Lib.hid hb1
            clear hb1 x2' x4
            have wm : IntKind.i64.wrap (m : Int) = m := by rw [IntKind.wrap_i64]; omega
            have hcap : ¬ M - m = 0 := by omega
            have hMm : ¬ M = m := by omega
            have hmM : m ≤ M := by omega
            have hb1 : But [] w w1.drew := HB1.out.drew
            have hr1 := H.out.keep hb1 (by simp)
            have HG : Hid (w1.drew.heap[B]? = some (.cells rows.flatten.toArray 5 (0, 0))) := Lib.hid (hb1.heap HX2.out (by simp))
            have HLN : Hid ((u8s bs).length = Nat.min bs.length (M - m)) := Lib.hid (by rw [u8s_len]; exact (Nat.min_eq_left (by omega)).symm)
            have HPOS : Hid (0 < (u8s bs).length → ∃ ad, a1 = some ad ∧ ∀ (j : Nat) (v : Value), (u8s bs)[j]? = some v → w1.drew.cell? (ad.add j) = some v) := Lib.hid fun h => sees_src (HT.out.but hb1 (by simp)) h
            have HFIT : Hid (m + (u8s bs).length ≤ rows.flatten.length) := Lib.hid (by rw [u8s_len, hfl]; omega)
            have H1C : Hid (∀ v ∈ u8s bs, v.oneCell' = true) := Lib.hid fun v hv => by obtain ⟨n, rfl⟩ := u8s_bytes bs v hv; rfl
            have KEYC : Hid (∀ (w5 : World), w5.heap[B]? = some (.cells (splice rows.flatten m (u8s bs)).toArray 5 (0, 0)) → But [B] w1.drew w5 → RefA w5 ok X bs.length (rows.set j (u8s bs)) ∧ But [B] w w5) := Lib.hid fun w5 hg hb5 => by
              have hx1 := hb1.heap HX1.out (by simp)
              have h := (hr1.write hx1 HR.out (off := 0) (cs := u8s bs) (by rw [u8s_len]; omega) (u8s_bytes bs) (by rw [Nat.add_zero, ← HMM.out]; exact hg) hb5).2
              rw [splice_all (by rw [u8s_len, HRL.out])] at h
              exact ⟨h, (hb1.mono (by simp)).trans hb5 (fun x hx => .inl hx)⟩
            clear hb1 hr1
            go_upto_region 8 with fail
            refine wp_region_tail9 13 (by kernel_rfl) (by kernel_rfl) ?_
            simp only [List.take_succ_cons, List.take_zero, List.drop_succ_cons, List.drop_zero]
            repeat still_step
            refine wpStill_nil ?_
            refine wpList_copy_but rfl (.tmp 50) (.tmp 51) 36 36 rfl 5 Tryz.underlying36 (by kernel_rfl) (some ⟨B, m, none⟩) a1 (M - m) (M - m) bs.length c1 rfl rfl B m rows.flatten 5 HG.out (u8s bs) HLN.out (fun h => ⟨rfl, HPOS.out h⟩) HFIT.out H1C.out ?_
            intro w5 hg5 hb5
            have HKC := Lib.hid (KEYC.out w5 hg5 hb5)
            clear hg5 hb5
            go_wp2_with fail
            go_ret
            exact ⟨rfl, HKC.out.1, [B], by simpa using HX3.out, HKC.out.2⟩
end
end Go.Proofs.YtkgoblpddjpcnaaGreat.M
