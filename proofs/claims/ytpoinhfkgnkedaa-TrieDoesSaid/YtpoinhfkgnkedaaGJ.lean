/-
  Merged: TfD, TfU, TfW, TfY.
-/
import Derived.Test.YtpoinhfkgnkedaaGI
import Derived.Deep.CutBlock
namespace Go.Proofs.Ytpoinhfkgnkedaa.M
open Go.RowKit
set_option linter.unusedVariables false
set_option linter.unusedSectionVars false
set_option linter.unusedSimpArgs false
attribute [local go_sem ↓] Go.wp_at_zero Go.wp_at_succ
noncomputable def delR (K : Nat) (A : LSt) (ks : List Int) : Int × LSt := if KeyBad K ks then (2, A) else match findK A (chs (kbits ks)) with | none => (6, A) | some k => (0, A.eraseIdx k)
theorem kbits_chs (ks : List Int) : ByteL (chs (kbits ks)) := chs_bytes (π := kbits ks) (fun x hx => by
  obtain ⟨i, _, rfl⟩ := List.mem_map.1 hx
  exact kbit_01 ks i)
section
variable {w : World} {ok : Nat → Prop} {R K V N : Nat} {A : LSt} {rows : List (List Int)}
set_option maxRecDepth 100000 in
set_option maxHeartbeats 4000000 in
theorem RefL.delete (h : RefL w ok R K V N A rows) (hok : ∀ b, w.heap.size ≤ b → ok b) (a : Option Addr) (c : Nat) {ks : List Int} (hs : Sees w (.slice a ks.length c) (u8s ks)) (hk : ByteL ks) :
    Calls Try.prog 23 #[.pointer (some ⟨R, 0, none⟩), .slice a ks.length c] w fun e w' => e = .returned (.int .i64 (delR K A ks).1) ∧ RefL w' ok R K V N (delR K A ks).2 rows ∧ Turns ok w w' := by
  obtain ⟨la, lc, c4, hP, c1, c2, c3, hlt⟩ := h.slot
  have HB := Lib.hid (refBits h.bounds.1 c1 a c hs hk)
  have HH := Lib.hid h
  have HOK := Lib.hid hok
  by_cases hbad : KeyBad K ks
  · have hr : delR K A ks = (2, A) := if_pos hbad
    have hb : bitsR K ks = .tuple #[.string ⟨#[]⟩, .bool false] := if_pos hbad
    rw [hb] at HB
    rw [hr]
    clear h hok hP c4 c1 c2 c3 hlt hbad hr hb hs hk
    go_enter Try.func23, Try.ntmps23
    go_wp2_with fail
    refine HB.out.mono ?_
    rintro e w2 ⟨rfl, hb2⟩
    have HB2 := Lib.hid hb2
    clear hb2
    go_wp2_with fail
    go_ret
    exact ⟨rfl, HH.out.keep HB2.out (by simp), turns_new HB2.out⟩
  · have hr : delR K A ks = match findK A (chs (kbits ks)) with | none => (6, A) | some k => (0, A.eraseIdx k) := if_neg hbad
    have hb : bitsR K ks = .tuple #[.string (strOfNums (chs (kbits ks))), .bool true] := if_neg hbad
    have hcb := kbits_chs ks
    rw [hb] at HB
    rw [hr]
    obtain ⟨cs, hcs⟩ : ∃ cs, cs = chs (kbits ks) := ⟨_, rfl⟩
    rw [← hcs] at HB hcb ⊢
    have HF : Hid (∀ (w' : World), But [] w w' → Calls Try.prog 52 #[.pointer (some ⟨R, 0, none⟩), .string (strOfNums cs)] w' fun e w2 => e = .returned (.int .i64 (findI A cs)) ∧ But [] w' w2) := Lib.hid fun w' hb' =>
      refFind (cell_but hb' c4 (by simp)) (hP.but hb' (by simp)) (fun x hx => (h.keys x hx).1) (by have := h.len; have := h.bounds.2.2; omega) hcb
    clear h hok hP c4 c1 c2 c3 hlt hbad hr hb hs hk hcs hcb
    cases hfk : findK A cs with
    | none =>
      have hfi := findI_none hfk
      rw [hfi] at HF
      clear hfk hfi
      dsimp only
      go_enter Try.func23, Try.ntmps23
      go_wp2_with fail
      refine HB.out.mono ?_
      rintro e w2 ⟨rfl, hb2⟩
      have HB2 := Lib.hid hb2
      clear hb2
      go_wp2_with fail
      refine (HF.out _ HB2.out).mono ?_
      rintro e w3 ⟨rfl, hb3⟩
      have HB3 : Hid (But [] w w3) := Lib.hid (HB2.out.trans hb3 (by simp))
      clear hb3
      go_wp2_with fail
      go_ret
      exact ⟨rfl, HH.out.keep HB3.out (by simp), turns_new HB3.out⟩
    | some i =>
      have hfi := findI_some hfk
      rw [hfi] at HF
      obtain ⟨hi, -, -⟩ := List.findIdx?_eq_some_iff_getElem.1 hfk
      clear hfk hfi
      dsimp only
      go_enter Try.func23, Try.ntmps23
      go_wp2_with fail
      refine HB.out.mono ?_
      rintro e w2 ⟨rfl, hb2⟩
      have HB2 := Lib.hid hb2
      clear hb2
      go_wp2_with fail
      refine (HF.out _ HB2.out).mono ?_
      rintro e w3 ⟨rfl, hb3⟩
      have HB3 : Hid (But [] w w3) := Lib.hid (HB2.out.trans hb3 (by simp))
      clear hb3
      have h : RefL w3 ok R K V N A rows := HH.out.keep HB3.out (by simp)
      have hok : ∀ b, w3.heap.size ≤ b → ok b := fun b hb => HOK.out b (Nat.le_trans HB3.out.size hb)
      have HOKR := Lib.hid HH.out.okR
      clear HF HB
      have hi9 : ¬ (i : Int) < 0 := by omega
      obtain ⟨i0, hin, hz0, hz1, hz2⟩ := info_parts (show (Try.prog.info? 93).map (fun i => (i.zero, i.size, i.bytes)) = some (some (.agg #[.string .empty, .int .i64 0]), 2, 24) by kernel_rfl)
      have HH := Lib.hid h
      obtain ⟨h0, ⟨a, c, b, d, vals, h1, h2, h3, h4⟩, h5, h6, h7⟩ := h
      obtain ⟨g, rfl⟩ := h2.addr (by omega)
      have hcap := h2.cap
      obtain ⟨L1, e1⟩ : ∃ L1, L1 = (enc A).take i := ⟨_, rfl⟩
      obtain ⟨L2, e2⟩ : ∃ L2, L2 = (enc A).drop (i + 1) := ⟨_, rfl⟩
      have l1 : L1.length = i := by rw [e1, List.length_take, enc_len]; omega
      have l2 : L2.length = A.length - (i + 1) := by rw [e2, List.length_drop, enc_len]
      have HL1 := Lib.hid l1
      have S1 : Hid (∀ w' : World, But [] w3 w' → Src Try.prog i0.size 85 (.slice (some ⟨g, 0, none⟩) i c) L1.length (flatP L1) w') := Lib.hid fun w' hb => by
        have hp := (h2.but hb (by simp)).part (P := Try.prog) Try.underlying85 0 i c (by rw [enc_len]; omega)
        rw [Nat.zero_mul, List.drop_zero, ← e1] at hp
        rw [hz1]
        exact hp
      obtain ⟨q, hq⟩ : ∃ q, q = i + 1 := ⟨_, rfl⟩
      obtain ⟨m, hm⟩ : ∃ m, m = L2.length := ⟨_, rfl⟩
      have hvl : A.length = q + m := by omega
      have S2 : Hid (∀ w' : World, But [] w3 w' → Src Try.prog i0.size 85 (.slice (some ⟨g, q * 2, none⟩) m (c - q)) L2.length (flatP L2) w') := Lib.hid fun w' hb => by
        have hp := (h2.but hb (by simp)).part (P := Try.prog) Try.underlying85 q m (c - q) (by rw [enc_len]; omega)
        have e3 : ((enc A).drop q).take m = L2 := by rw [hq, ← e2, hm]; exact List.take_length
        rw [e3] at hp
        rw [hz1]
        exact hp
      have hltw := lt_of h1
      have hw : IntKind.i64.wrap ((i : Int) + 1) = (q : Int) := by rw [hq]; exact IntWalk.i64_in _ (by omega)
      have KEY1 := Lib.hid (fun (v' : Value) (w5 : World) (hap : AppP (w3.alloc (.cells #[] 93)).drew w5 93 (.slice (some ⟨w3.heap.size, 0, none⟩) 0 0) v' [] L1) => freshP (w0 := w3) (((But.refl [] w3).alloc _).drew) (by show w3.heap.size < (w3.alloc _).heap.size; rw [size_alloc]; omega) hap)
      have KEY2 := Lib.hid (fun (w5 w7 : World) (v' : Value) (a5 : Option Addr) (c5 : Nat) (q5 : OwnP w5 93 (.slice a5 L1.length c5) L1) (n5 : ∀ b, (Value.slice a5 L1.length c5).ownBlock = some b → w3.heap.size ≤ b) (b5 : But [] w3 w5) (hap : AppP w5 w7 93 (.slice a5 L1.length c5) v' L1 L2) => HH.out.shrunk hok hi e1 e2 q5 n5 b5 hap)
      have HQ0 : Hid (OwnP (w3.alloc (.cells #[] 93)).drew 93 (.slice (some ⟨w3.heap.size, 0, none⟩) 0 0) []) := Lib.hid ((fresh_atP w3 93).but ((But.refl [] _).drew) (by simp))
      have HS1 := Lib.hid (S1.out _ (((But.refl [] w3).alloc (.cells #[] 93)).drew))
      have HM := Lib.hid hm
      have hi0 : (0 : Int) ≤ i := by omega
      have hm1 : m ≤ 1024 := by omega
      have hj1 : i ≤ 1024 := by omega
      by_cases hc1 : q < c
      · have c4 : w3.cell? ⟨R, 4, none⟩ = some (.slice (some ⟨g, 0, none⟩) (q + m) c) := by rw [← hvl]; exact cl_of h1 4
        have hqm : q + m ≤ c := by omega
        have hic : i ≤ c := by omega
        have hqc : q ≤ c := by omega
        have hqc3 : ¬ c = q := by omega
        have hic2 : (i : Int) ≤ c := by omega
        have hq0 : (0 : Int) ≤ q := by omega
        have hq1 : (q : Int) ≤ (q : Int) + (m : Int) := by omega
        clear h0 h1 h2 h3 h4 h5 h6 h7 hok hi e1 e2 l1 l2 hm hvl hq hcap
        go_wp2_with fail
        go_region_law (first
          | (refine step_append_p (by rfl) _ _ 85 (by rfl) 93 i0 (.agg #[.string .empty, .int .i64 0]) 24 Try.underlying85 hin hz0 hz1 hz2 rfl _ [] (by rfl) HQ0.out L1 _ (by rfl) HS1.out (by rw [HL1.out]; unfold maxLen; have h0 : ([] : List Rec).length = 0 := rfl; omega) (by rw [HL1.out]; have h0 : ([] : List Rec).length = 0 := rfl; omega) ?_; intro v' w5 hap; obtain ⟨a5, c5, rfl, q5, n5, b5⟩ := KEY1.out _ _ hap; have k45 := cell_but b5 c4 (by simp); have Q5 := Lib.hid q5; have N5 := Lib.hid n5; have B5 := Lib.hid b5; clear hap q5 n5 b5)
          | (refine step_append_p (by rfl) _ _ 85 (by rfl) 93 i0 (.agg #[.string .empty, .int .i64 0]) 24 Try.underlying85 hin hz0 hz1 hz2 rfl _ L1 (by rfl) Q5.out L2 _ (by rfl) (S2.out _ B5.out) (by rw [HL1.out, ← HM.out]; unfold maxLen; omega) (by rw [HL1.out, ← HM.out]; omega) ?_; intro v' w7 hap; obtain ⟨a7, c7, rfl, gf7, ⟨u7, gc7⟩, h7, b7⟩ := KEY2.out _ _ _ _ _ Q5.out N5.out B5.out hap; have H7 := Lib.hid h7; have B7 := Lib.hid b7; clear hap h7 b7))
        all_goals
          go_wp2_with fail
          go_ret
          exact ⟨rfl, H7.out, turns_trans (turns_new HB3.out) (Turns.of (ok := ok) B7.out (fun x hx => by have e : x = R := (by simpa using hx); rw [e]; exact HOKR.out))⟩
      · obtain rfl : c = q := by omega
        have hm0 : m = 0 := by omega
        obtain rfl : L2 = [] := List.eq_nil_of_length_eq_zero (by omega)
        have S3 : Hid (∀ w' : World, Src Try.prog i0.size 85 (.slice (some ⟨g, 0, none⟩) 0 0) ([] : List Rec).length (flatP []) w') := Lib.hid fun w' => by rw [hz1]; exact src_none (P := Try.prog) (w := w') Try.underlying85 ⟨g, 0, none⟩ 0
        have c4 : w3.cell? ⟨R, 4, none⟩ = some (.slice (some ⟨g, 0, none⟩) c c) := by have := cl_of h1 4; rw [show A.length = c by omega] at this; exact this
        have hic : i ≤ c := by omega
        have hic2 : (i : Int) ≤ c := by omega
        have hq0 : (0 : Int) ≤ c := by omega
        clear h0 h1 h2 h3 h4 h5 h6 h7 hok hi e1 e2 l1 l2 hm hvl hq hcap hm0 S2 hc1
        go_wp2_with fail
        go_region_law (first
          | (refine step_append_p (by rfl) _ _ 85 (by rfl) 93 i0 (.agg #[.string .empty, .int .i64 0]) 24 Try.underlying85 hin hz0 hz1 hz2 rfl _ [] (by rfl) HQ0.out L1 _ (by rfl) HS1.out (by rw [HL1.out]; unfold maxLen; have h0 : ([] : List Rec).length = 0 := rfl; omega) (by rw [HL1.out]; have h0 : ([] : List Rec).length = 0 := rfl; omega) ?_; intro v' w5 hap; obtain ⟨a5, c5, rfl, q5, n5, b5⟩ := KEY1.out _ _ hap; have k45 := cell_but b5 c4 (by simp); have Q5 := Lib.hid q5; have N5 := Lib.hid n5; have B5 := Lib.hid b5; clear hap q5 n5 b5)
          | (refine step_append_p (by rfl) _ _ 85 (by rfl) 93 i0 (.agg #[.string .empty, .int .i64 0]) 24 Try.underlying85 hin hz0 hz1 hz2 rfl _ L1 (by rfl) Q5.out [] _ (by rfl) (S3.out _) (by rw [HL1.out]; unfold maxLen; have h0 : ([] : List Rec).length = 0 := rfl; omega) (by rw [HL1.out]; have h0 : ([] : List Rec).length = 0 := rfl; omega) ?_; intro v' w7 hap; obtain ⟨a7, c7, rfl, gf7, ⟨u7, gc7⟩, h7, b7⟩ := KEY2.out _ _ _ _ _ Q5.out N5.out B5.out hap; have H7 := Lib.hid h7; have B7 := Lib.hid b7; clear hap h7 b7))
        all_goals
          go_wp2_with fail
          go_ret
          exact ⟨rfl, H7.out, turns_trans (turns_new HB3.out) (Turns.of (ok := ok) B7.out (fun x hx => by have e : x = R := (by simpa using hx); rw [e]; exact HOKR.out))⟩
end
end Go.Proofs.Ytpoinhfkgnkedaa.M
namespace Go.Proofs.Ytpoinhfkgnkedaa.M
open Go.RowKit
set_option linter.unusedVariables false
set_option linter.unusedSectionVars false
set_option linter.unusedSimpArgs false
attribute [local go_sem ↓] Go.wp_at_zero Go.wp_at_succ
section
variable {w : World} {ok : Nat → Prop} {R K V N : Nat} {A : LSt} {rows : List (List Int)}
theorem flag_ne {f k : Int} (h : f ≠ k) : (f == k) = false := by simpa using h
theorem flag_eq {f k : Int} (h : f = k) : (f == k) = true := by simpa using h
theorem bits_not {K : Nat} {ks : List Int} (h : ¬ KeyBad K ks) : bitsR K ks = .tuple #[.string (strOfNums (chs (kbits ks))), .bool true] := if_neg h
theorem bits_bad {K : Nat} {ks : List Int} (h : KeyBad K ks) : bitsR K ks = .tuple #[.string ⟨#[]⟩, .bool false] := if_pos h
set_option maxRecDepth 100000 in
set_option maxHeartbeats 4000000 in
/-- What is refused. -/
theorem RefL.upd_bad (h : RefL w ok R K V N A rows) (a vb : Option Addr) (c vc : Nat) {ks vs : List Int} (hs : Sees w (.slice a ks.length c) (u8s ks)) (hk : ByteL ks) (f : Int) (hb : KeyBad K ks ∨ vs.length ≠ V ∨ 2 < f) :
    Calls Try.prog 30 #[.pointer (some ⟨R, 0, none⟩), .slice a ks.length c, .slice vb vs.length vc, .int .u64 f] w fun e w' => e = .returned (.int .i64 2) ∧ But [] w w' := by
  obtain ⟨la, lc, c4, hP, c1, c2, c3, hlt⟩ := h.slot
  have HB := Lib.hid (refBits h.bounds.1 c1 a c hs hk)
  have HC2 := Lib.hid c2
  clear h hP c4 c1 c3 hlt hs hk c2
  by_cases h1 : KeyBad K ks
  · rw [bits_bad h1] at HB
    clear hb h1
    go_enter Try.func30, Try.ntmps30
    go_wp2_with fail
    refine HB.out.mono ?_
    rintro e w2 ⟨rfl, hb2⟩
    go_wp2_with fail
    go_ret
    exact ⟨rfl, hb2⟩
  · rw [bits_not h1] at HB
    by_cases h2 : vs.length = V
    · have q2 := eq_len h2
      have q3 : 2 < f := by rcases hb with h | h | h; exact absurd h h1; exact absurd h2 h; exact h
      clear hb h1 h2
      go_enter Try.func30, Try.ntmps30
      go_wp2_with fail
      refine HB.out.mono ?_
      rintro e w2 ⟨rfl, hb2⟩
      have d2 : w2.cell? ⟨R, 2, none⟩ = some (.int .i64 V) := cell_but hb2 HC2.out (by simp)
      go_wp2_with fail
      go_ret
      exact ⟨rfl, hb2⟩
    · have q2 := ne_len h2
      clear hb h1 h2
      go_enter Try.func30, Try.ntmps30
      go_wp2_with fail
      refine HB.out.mono ?_
      rintro e w2 ⟨rfl, hb2⟩
      have d2 : w2.cell? ⟨R, 2, none⟩ = some (.int .i64 V) := cell_but hb2 HC2.out (by simp)
      go_wp2_with fail
      go_ret
      exact ⟨rfl, hb2⟩
set_option maxRecDepth 100000 in
set_option maxHeartbeats 4000000 in
/-- The key is there. -/
theorem RefL.upd_hit (h : RefL w ok R K V N A rows) (hok : ∀ b, w.heap.size ≤ b → ok b) (a vb : Option Addr) (c vc : Nat) {ks vs : List Int} (hs : Sees w (.slice a ks.length c) (u8s ks)) (hk : ByteL ks) (hvs : Sees w (.slice vb vs.length vc) (u8s vs)) (hv : ByteL vs) (f : Int) (h1 : ¬ KeyBad K ks) (h2 : vs.length = V) (h3 : ¬ 2 < f) {k : Nat} (hf : findK A (chs (kbits ks)) = some k) :
    Calls Try.prog 30 #[.pointer (some ⟨R, 0, none⟩), .slice a ks.length c, .slice vb vs.length vc, .int .u64 f] w fun e w' => e = .returned (.int .i64 (if f = 1 then 7 else 0)) ∧ RefL w' ok R K V N A (if f = 1 then rows else rows.set (placeA A k) vs) ∧ Turns ok w w' := by
  obtain ⟨la, lc, c4, hP, c1, c2, c3, hlt⟩ := h.slot
  have HB := Lib.hid (refBits h.bounds.1 c1 a c hs hk)
  rw [bits_not h1] at HB
  have hcb := kbits_chs ks
  obtain ⟨cs, hcs⟩ : ∃ cs, cs = chs (kbits ks) := ⟨_, rfl⟩
  rw [← hcs] at HB hcb hf
  have HF : Hid (∀ (w' : World), But [] w w' → Calls Try.prog 52 #[.pointer (some ⟨R, 0, none⟩), .string (strOfNums cs)] w' fun e w2 => e = .returned (.int .i64 (findI A cs)) ∧ But [] w' w2) := Lib.hid fun w' hb' =>
    refFind (cell_but hb' c4 (by simp)) (hP.but hb' (by simp)) (fun x hx => (h.keys x hx).1) (by have := h.len; have := h.bounds.2.2; omega) hcb
  rw [findI_some hf] at HF
  have HH := Lib.hid h
  have HOK := Lib.hid hok
  have HP := Lib.hid hP
  have HC2 := Lib.hid c2
  have HC4 := Lib.hid c4
  obtain ⟨hkl, -, -⟩ := List.findIdx?_eq_some_iff_getElem.1 hf
  have hk9 : (0 : Int) ≤ k := by omega
  have hk8 : (k : Int) < (A.length : Int) := by omega
  obtain ⟨g, rfl⟩ := hP.addr (by omega)
  have hx0 : A[k]? = some A[k] := List.getElem?_eq_getElem hkl
  obtain ⟨x, hxe⟩ : ∃ x, x = A[k] := ⟨_, rfl⟩
  rw [← hxe] at hx0
  have hpx : placeA A k = x.2 := by unfold placeA; rw [hx0]; rfl
  rw [hpx]
  obtain ⟨p, hp⟩ : ∃ p, p = x.2 := ⟨_, rfl⟩
  rw [← hp]
  have hpN : p < N := by rw [hp]; exact (h.keys _ (List.mem_of_getElem? hx0)).2
  have HX := Lib.hid hx0
  have q2 := eq_len h2
  have HV2 := Lib.hid h2
  have HVS := Lib.hid hvs
  have HVB := Lib.hid hv
  have hp0 : (0 : Int) ≤ p := by omega
  have hp1 : (p : Int) < N := by omega
  have HPN := Lib.hid hpN
  have HPE := Lib.hid hp
  have hf3 : ¬ 2 < f := h3
  by_cases hf1 : f = 1
  · subst hf1
    rw [if_pos rfl, if_pos rfl]
    clear h hok hP hs hk hf hx0 hxe hpx hp hkl h1 h2 hvs hv hpN h3 hcs hcb c1 c2 c3 c4
    go_enter Try.func30, Try.ntmps30
    go_wp2_with fail
    refine HB.out.mono ?_
    rintro e w2 ⟨rfl, hb2⟩
    have HB2 := Lib.hid hb2
    have d2 : w2.cell? ⟨R, 2, none⟩ = some (.int .i64 V) := cell_but hb2 HC2.out (by simp)
    clear hb2
    go_wp2_with fail
    refine (HF.out _ HB2.out).mono ?_
    rintro e w3 ⟨rfl, hb3⟩
    have HB3 : Hid (But [] w w3) := Lib.hid (HB2.out.trans hb3 (by simp))
    clear hb3
    go_wp2_with fail
    go_ret
    exact ⟨rfl, HH.out.keep HB3.out (by simp), turns_new HB3.out⟩
  · rw [if_neg hf1, if_neg hf1]
    have hf1' := flag_ne hf1
    clear h hok hP hs hk hf hx0 hxe hpx hp hkl h1 h2 hvs hv hpN h3 hf1 hcs hcb c1 c2 c3 c4
    go_enter Try.func30, Try.ntmps30
    go_wp2_with fail
    refine HB.out.mono ?_
    rintro e w2 ⟨rfl, hb2⟩
    have HB2 := Lib.hid hb2
    have d2 : w2.cell? ⟨R, 2, none⟩ = some (.int .i64 V) := cell_but hb2 HC2.out (by simp)
    clear hb2
    go_wp2_with fail
    refine (HF.out _ HB2.out).mono ?_
    rintro e w3 ⟨rfl, hb3⟩
    have HB3 : Hid (But [] w w3) := Lib.hid (HB2.out.trans hb3 (by simp))
    clear hb3
    have k4 : w3.cell? ⟨R, 4, none⟩ = some (.slice (some ⟨g, 0, none⟩) A.length lc) := cell_but HB3.out HC4.out (by simp)
    obtain ⟨_, d2⟩ := (HP.out.but HB3.out (by simp)).at2 (enc_get HX.out)
    dsimp only at d2
    rw [← HPE.out] at d2
    have HR1 := Lib.hid (HH.out.keep HB3.out (by simp))
    obtain ⟨gv, ov, d, r, pg, po, pc, cur, hpl⟩ := HR1.out.place HPN.out
    have e5 := hpl.cell5
    have ep := hpl.cellp
    have HPL := Lib.hid hpl
    have HPOS : Hid (0 < (u8s vs).length → ∃ ad, vb = some ad ∧ ∀ j v, (u8s vs)[j]? = some v → w3.drew.cell? (ad.add j) = some v) := Lib.hid fun h0 => sees_src (HVS.out.but (HB3.out.drew) (by simp)) h0
    have HLN : Hid ((u8s vs).length = Nat.min vs.length V) := Lib.hid (by rw [u8s_len, HV2.out]; exact (Nat.min_self _).symm)
    have HFIT : Hid (po + (u8s vs).length ≤ cur.length) := Lib.hid (by rw [u8s_len, HV2.out]; have := hpl.fit; omega)
    have HG : Hid (w3.drew.heap[pg]? = some (.cells cur.toArray 5 (0, 0))) := Lib.hid hpl.cells
    have KEY : Hid (∀ w', w'.heap[pg]? = some (.cells (splice cur po (u8s vs)).toArray 5 (0, 0)) → But [pg] w3.drew w' → RefL w' ok R K V N A (rows.set p vs) ∧ Turns ok w w') := Lib.hid fun w' hg' hb' => by
      have hb2 : But [pg] w3 w' := ((But.refl [] w3).drew.mono (by simp)).trans hb' (fun x hx => .inl hx)
      have h9 := HPL.out.turn w' 0 vs (by rw [HV2.out]; omega) HVB.out hg' hb2
      rw [setAt_all (by rw [HV2.out, HPL.out.len])] at h9
      exact ⟨h9, turns_trans (turns_new HB3.out) (.of hb2 (fun x hx => by have e : x = pg := (by simpa using hx); rw [e]; exact HPL.out.okg))⟩
    clear hpl
    go_wp2_with fail
    go_region_law (refine step_copy (by rfl) (.tmp 57) (.tmp 58) 26 26 (by rfl) 5 Try.underlying26 (by kernel_rfl) (some ⟨pg, po, none⟩) vb V pc vs.length vc (by rfl) (by rfl) pg po cur 5 HG.out (u8s vs) HLN.out (fun h => ⟨rfl, HPOS.out h⟩) HFIT.out (u8s_one vs) ?_; intro w5 hg5 hb5; obtain ⟨h5, t5⟩ := KEY.out w5 hg5.out hb5; have H5 := Lib.hid h5; have T5 := Lib.hid t5; have HZ5 := Lib.hid hb5.size; clear hg5 hb5 h5 t5)
    all_goals
      go_wp2_with fail
      go_ret
      exact ⟨rfl, H5.out, T5.out⟩
end
end Go.Proofs.Ytpoinhfkgnkedaa.M
namespace Go.Proofs.Ytpoinhfkgnkedaa.M
open Go.RowKit
set_option linter.unusedVariables false
set_option linter.unusedSectionVars false
set_option linter.unusedSimpArgs false
attribute [local go_sem ↓] Go.wp_at_zero Go.wp_at_succ
def freeO (A : LSt) (N : Nat) : Option Nat := (List.range N).find? (fun p => !usedA A p)
theorem freeO_here {A : LSt} {N p : Nat} (hp : p < N) (h : UsedTo A p) (hu : usedA A p = false) : freeO A N = some p := by
  unfold freeO
  rw [List.find?_range_eq_some]
  exact ⟨by rw [hu]; rfl, List.mem_range.2 hp, fun j hj => by rw [h j hj]; rfl⟩
theorem freeO_no {A : LSt} {N : Nat} (h : UsedTo A N) : freeO A N = none := by
  unfold freeO
  rw [List.find?_eq_none]
  intro p hp
  rw [h p (List.mem_range.1 hp)]
  decide
theorem below_len : ∀ (N : Nat) (l : List Nat), l.Nodup → (∀ x ∈ l, x < N) → l.length ≤ N
  | 0, l, _, h => by
    cases l with
    | nil => exact Nat.le_refl _
    | cons x l => exact absurd (h x List.mem_cons_self) (by omega)
  | N + 1, l, hn, h => by
    have h1 := below_len N (l.erase N) (hn.erase N) (fun x hx => by
      have h2 := (List.Nodup.mem_erase_iff hn).1 hx
      have := h x h2.2
      have := h2.1
      omega)
    by_cases hm : N ∈ l
    · rw [List.length_erase_of_mem hm] at h1
      omega
    · rw [List.erase_of_not_mem hm] at h1
      omega
theorem free_lt {A : LSt} {N p : Nat} (hn : (A.map (·.2)).Nodup) (hl : ∀ x ∈ A, x.2 < N) (hp : p < N) (hu : usedA A p = false) : A.length < N := by
  have hm : p ∉ A.map (·.2) := fun hm => by
    obtain ⟨x, hx, rfl⟩ := List.mem_map.1 hm
    have : usedA A x.2 = true := List.any_eq_true.2 ⟨x, hx, by simp⟩
    rw [this] at hu
    cases hu
  have h1 := below_len N (p :: A.map (·.2)) (List.nodup_cons.2 ⟨hm, hn⟩) (fun x hx => by
    rcases List.mem_cons.1 hx with rfl | hx
    · exact hp
    · obtain ⟨y, hy, rfl⟩ := List.mem_map.1 hx
      exact hl y hy)
  rw [List.length_cons, List.length_map] at h1
  omega
theorem src_oneN {i0 : TypeInfo} (hz1 : i0.size = 2) (w5 : World) (s : ByteArray) (p : Nat) : Src Try.prog i0.size 85 (.slice (some ⟨w5.heap.size, 0, none⟩) 1 1) [((s, p) : Rec)].length (flatP [(s, p)]) (w5.alloc (.cells #[.string s, .int .i64 p] 93)) := by
  rw [hz1]
  refine Src.ofSlice _ Try.underlying85 ⟨w5.heap.size, 0, none⟩ 1 1 _ (by rfl) (fun j u hj => ?_) (flatP_one _)
  rw [add_at, Nat.zero_add]
  show (w5.alloc (.cells #[.string s, .int .i64 p] 93)).cell? _ = _
  rw [cl_of (al_at _ _)]
  match j, hj with
  | 0, hj => exact hj
  | 1, hj => exact hj
  | j + 2, hj => simp [flatP, rcells] at hj
theorem len_min {vs : List Int} {V : Nat} (h : vs.length = V) : (u8s vs).length = Nat.min vs.length V := by rw [u8s_len, h]; exact (Nat.min_self _).symm
theorem fit_of {vs : List Int} {V o c n : Nat} (h : vs.length = V) (hf : o + c ≤ n ∧ V ≤ c ∧ c ≤ maxLen) : o + (u8s vs).length ≤ n := by rw [u8s_len, h]; omega
theorem zero_len {vs : List Int} {V : Nat} (h : vs.length = V) : 0 + vs.length ≤ V := by omega
/-- What Update makes of a key that is not there. -/
def newA (N : Nat) (A : LSt) (cs : List Int) (rows : List (List Int)) (vs : List Int) (f : Int) : Int × LSt × List (List Int) :=
  if f = 2 then (6, A, rows) else match freeO A N with | none => (8, A, rows) | some p => (0, A ++ [(cs, p)], rows.set p vs)
section
variable {w : World} {ok : Nat → Prop} {R K V N : Nat} {A : LSt} {rows : List (List Int)}
set_option maxRecDepth 100000 in
set_option maxHeartbeats 4000000 in
theorem RefL.upd_new (h : RefL w ok R K V N A rows) (hok : ∀ b, w.heap.size ≤ b → ok b) (a vb : Option Addr) (c vc : Nat) {ks vs : List Int} (hs : Sees w (.slice a ks.length c) (u8s ks)) (hk : ByteL ks) (hvs : Sees w (.slice vb vs.length vc) (u8s vs)) (hv : ByteL vs) (f : Int) (h1 : ¬ KeyBad K ks) (h2 : vs.length = V) (h3 : ¬ 2 < f) (hf : findK A (chs (kbits ks)) = none) (hpn : (A.map (·.2)).Nodup) :
    Calls Try.prog 30 #[.pointer (some ⟨R, 0, none⟩), .slice a ks.length c, .slice vb vs.length vc, .int .u64 f] w fun e w' => e = .returned (.int .i64 (newA N A (chs (kbits ks)) rows vs f).1) ∧ RefL w' ok R K V N (newA N A (chs (kbits ks)) rows vs f).2.1 (newA N A (chs (kbits ks)) rows vs f).2.2 ∧ Turns ok w w' := by
  obtain ⟨i0, hin, hz0, hz1, hz2⟩ := info_parts (show (Try.prog.info? 93).map (fun i => (i.zero, i.size, i.bytes)) = some (some (.agg #[.string .empty, .int .i64 0]), 2, 24) by kernel_rfl)
  obtain ⟨la, lc, c4, hP, c1, c2, c3, hlt⟩ := h.slot
  have HB := Lib.hid (refBits h.bounds.1 c1 a c hs hk)
  rw [bits_not h1] at HB
  have hcb := kbits_chs ks
  obtain ⟨cs, hcs⟩ : ∃ cs, cs = chs (kbits ks) := ⟨_, rfl⟩
  rw [← hcs] at HB hcb hf ⊢
  have HF : Hid (∀ (w' : World), But [] w w' → Calls Try.prog 52 #[.pointer (some ⟨R, 0, none⟩), .string (strOfNums cs)] w' fun e w2 => e = .returned (.int .i64 (findI A cs)) ∧ But [] w' w2) := Lib.hid fun w' hb' =>
    refFind (cell_but hb' c4 (by simp)) (hP.but hb' (by simp)) (fun x hx => (h.keys x hx).1) (by have := h.len; have := h.bounds.2.2; omega) hcb
  rw [findI_none hf] at HF
  have hn : A.length ≤ 1024 := Nat.le_trans h.len h.bounds.2.2.2
  have hN : N ≤ 1024 := h.bounds.2.2.2
  have HH := Lib.hid h
  have HOK := Lib.hid hok
  have HC2 := Lib.hid c2
  have HC3 := Lib.hid c3
  have HC4 := Lib.hid c4
  have HP0 := Lib.hid hP
  have q2 := eq_len h2
  have HV2 := Lib.hid h2
  have HVS := Lib.hid hvs
  have HVB := Lib.hid hv
  have HCB := Lib.hid hcb
  have HPN := Lib.hid hpn
  have hf3 : ¬ 2 < f := h3
  by_cases hf2 : f = 2
  · have HR : Hid (newA N A cs rows vs f = (6, A, rows)) := Lib.hid (if_pos hf2)
    subst hf2
    clear h hok hP hs hk hf h1 h2 hvs hv h3 hcs hcb c1 c2 c3 c4 hpn
    go_enter Try.func30, Try.ntmps30
    go_wp2_with fail
    refine HB.out.mono ?_
    rintro e w2 ⟨rfl, hb2⟩
    have HB2 := Lib.hid hb2
    have d2 : w2.cell? ⟨R, 2, none⟩ = some (.int .i64 V) := cell_but hb2 HC2.out (by simp)
    clear hb2
    go_wp2_with fail
    refine (HF.out _ HB2.out).mono ?_
    rintro e w3 ⟨rfl, hb3⟩
    have HB3 : Hid (But [] w w3) := Lib.hid (HB2.out.trans hb3 (by simp))
    clear hb3
    go_wp2_with fail
    go_ret
    exact ⟨by rw [HR.out]; rfl, by rw [HR.out]; exact HH.out.keep HB3.out (by simp), turns_new HB3.out⟩
  · have hf2' := flag_ne hf2
    have HR : Hid (newA N A cs rows vs f = match freeO A N with | none => (8, A, rows) | some p => (0, A ++ [(cs, p)], rows.set p vs)) := Lib.hid (if_neg hf2)
    clear h hok hP hs hk hf h1 h2 hvs hv h3 hcs hcb c1 c2 c3 c4 hpn hf2
    go_enter Try.func30, Try.ntmps30
    go_wp2_with fail
    refine HB.out.mono ?_
    rintro e w2 ⟨rfl, hb2⟩
    have HB2 := Lib.hid hb2
    have d2 : w2.cell? ⟨R, 2, none⟩ = some (.int .i64 V) := cell_but hb2 HC2.out (by simp)
    clear hb2
    go_wp2_with fail
    refine (HF.out _ HB2.out).mono ?_
    rintro e w3 ⟨rfl, hb3⟩
    have HB3 : Hid (But [] w w3) := Lib.hid (HB2.out.trans hb3 (by simp))
    clear hb3 d2
    have HR3 := Lib.hid (HH.out.keep HB3.out (by simp))
    have k3 : w3.cell? ⟨R, 3, none⟩ = some (.int .i64 N) := cell_but HB3.out HC3.out (by simp)
    have k4 : w3.cell? ⟨R, 4, none⟩ = some (.slice la A.length lc) := cell_but HB3.out HC4.out (by simp)
    have HP := Lib.hid (HP0.out.but HB3.out (by simp))
    have HHN := Lib.hid hN
    have HHA := Lib.hid hn
    go_wp2_with fail
    go_loop [12] (fun p => ∃ k : Nat, k ≤ N ∧ p = .int .i64 k ∧ UsedTo A k) (fun p => N - (intOf p).toNat)
    case atStart => exact ⟨0, Nat.zero_le _, rfl, fun j hj => absurd hj (Nat.not_lt_zero _)⟩
    case round =>
      as_aux_lemma =>
      obtain ⟨p, hpl, rfl, hus⟩ := hrel
      have HUS := Lib.hid hus
      clear hus
      by_cases hlt : p < N
      · obtain ⟨hp0, hp1, hw1, hw2⟩ := find_nums hlt hN
        have HLT := Lib.hid hlt
        clear hlt
        go_wp2_with fail
        go_loop [13, 14] (fun u i => ∃ k : Nat, k ≤ A.length ∧ i = .int .i64 k ∧ ∃ b : Bool, u = .bool b ∧ usedA (A.take k) p = b) (fun _ i => A.length - (intOf i).toNat)
        case atStart => exact ⟨0, Nat.zero_le _, rfl, false, rfl, rfl⟩
        case round =>
          as_aux_lemma =>
          obtain ⟨k, hkl, rfl, b, rfl, hb⟩ := hrel
          have HU := Lib.hid hb
          clear hb
          by_cases hlk : k < A.length
          · obtain ⟨hk0, hk1, hw3, hw4⟩ := find_nums hlk hn
            obtain ⟨x, hx⟩ : ∃ x, A[k]? = some x := ⟨_, List.getElem?_eq_getElem hlk⟩
            obtain ⟨g, rfl⟩ := HP.out.addr (Nat.zero_lt_of_lt hlk)
            have d1 := (HP.out.at2 (enc_get hx)).2
            have HST := Lib.hid (used_step (p := p) hx)
            have HLK := Lib.hid hlk
            clear hx hlk
            cases b with
            | true =>
              go_wp2_with fail
              go_round
              case rel => exact ⟨k + 1, HLK.out, by go_num, true, rfl, by rw [HST.out]; exact used_or1 HU.out⟩
              case measure => first | exact find_meas HLK.out | exact (by rw [hw3]; exact find_meas HLK.out)
            | false =>
              by_cases he : x.2 = p
              · have hq := cast_eqb he
                have HE := Lib.hid he
                clear he
                go_wp2_with fail
                go_round
                case rel => exact ⟨k + 1, HLK.out, by go_num, true, by first | rfl | (rw [hq]), by rw [HST.out]; exact used_or2 HE.out⟩
                case measure => first | exact find_meas HLK.out | exact (by rw [hw3]; exact find_meas HLK.out)
              · have hq := cast_neb he
                have HE := Lib.hid he
                clear he
                go_wp2_with fail
                go_round
                case rel => exact ⟨k + 1, HLK.out, by go_num, false, by first | rfl | (rw [hq]), by rw [HST.out]; exact used_or3 HU.out HE.out⟩
                case measure => first | exact find_meas HLK.out | exact (by rw [hw3]; exact find_meas HLK.out)
          · obtain rfl : k = A.length := num_eqR hkl hlk
            have HUA : Hid (usedA A p = b) := Lib.hid (by rw [← used_all]; exact HU.out)
            clear hlk hkl
            cases b with
            | true =>
              go_wp2_with fail
              go_round
              case rel => exact ⟨p + 1, HLT.out, by go_num, HUS.out.next HUA.out⟩
              case measure => first | exact find_meas HLT.out | exact (by rw [hw1]; exact find_meas HLT.out)
            | false =>
              as_aux_lemma =>
              have hpN : p < N := HLT.out
              have HFR : Hid (freeO A N = some p) := Lib.hid (freeO_here HLT.out HUS.out HUA.out)
              have HLN2 : Hid (A.length < N) := Lib.hid (free_lt HPN.out (fun x hx => (HH.out.keys x hx).2) hpN HUA.out)
              obtain ⟨gv, ov, d, r, pg, po, pc, cur, hpl⟩ := HR3.out.place hpN
              have e5 := hpl.cell5
              have ep := hpl.cellp
              have HPL := Lib.hid hpl
              have HPOS : Hid (0 < (u8s vs).length → ∃ ad, vb = some ad ∧ ∀ j v, (u8s vs)[j]? = some v → w3.cell? (ad.add j) = some v) := Lib.hid fun h0 => sees_src (HVS.out.but HB3.out (by simp)) h0
              have HLN : Hid ((u8s vs).length = Nat.min vs.length V) := Lib.hid (len_min HV2.out)
              have HFIT : Hid (po + (u8s vs).length ≤ cur.length) := Lib.hid (fit_of HV2.out hpl.fit)
              have HG := Lib.hid hpl.cells
              have KEY : Hid (∀ w', w'.heap[pg]? = some (.cells (splice cur po (u8s vs)).toArray 5 (0, 0)) → But [pg] w3 w' → RefL w' ok R K V N A (rows.set p vs) ∧ Turns ok w w' ∧ w.heap.size ≤ w'.heap.size) := Lib.hid fun w' hg' hb' => by
                have h9 := HPL.out.turn w' 0 vs (zero_len HV2.out) HVB.out hg' hb'
                rw [setAt_all (by rw [HV2.out, HPL.out.len])] at h9
                exact ⟨h9, turns_trans (turns_new HB3.out) (.of hb' (fun x hx => by have e : x = pg := (by simpa using hx); rw [e]; exact HPL.out.okg)), Nat.le_trans HB3.out.size hb'.size⟩
              have HPLT := Lib.hid hpN
              clear hpl hpN
              go_upto_region 22 with ((with_reducible refine (show wpList _ _ _ (⟨some 103, _, _, _, _, _⟩ :: _) _ _ from ?_)); refine wpList_copy_but rfl (.tmp 101) (.tmp 102) 26 26 rfl 5 Try.underlying26 (by kernel_rfl) (some ⟨pg, po, none⟩) vb V pc vs.length vc rfl rfl pg po cur 5 HG.out (u8s vs) HLN.out (fun h => ⟨rfl, HPOS.out h⟩) HFIT.out (u8s_one vs) ?_; intro w5 hg5 hb5; obtain ⟨h5, t5, z5⟩ := KEY.out w5 hg5 hb5; have H5 := Lib.hid h5; have T5 := Lib.hid t5; have Z5 := Lib.hid z5; clear hg5 hb5 h5 t5 z5)
              obtain ⟨la5, lc5, n4, hP5, -, -, -, hlt5⟩ := H5.out.slot
              have HZ : Hid (But [] w5 (w5.alloc (.cells #[.string (strOfNums cs), .int .i64 p] 93))) := Lib.hid ((But.refl [] w5).alloc _)
              have HQ : Hid (OwnP (w5.alloc (.cells #[.string (strOfNums cs), .int .i64 p] 93)) 93 (.slice la5 A.length lc5) (enc A)) := Lib.hid (hP5.but HZ.out (by simp))
              have HFT : Hid ((enc A).length ≤ 1024) := Lib.hid (by rw [enc_len]; exact HHA.out)
              have HSRC := Lib.hid (src_oneN (i0 := i0) hz1 w5 (strOfNums cs) p)
              have KEY2 : Hid (∀ (v' : Value) (w7 : World), AppP (w5.alloc (.cells #[.string (strOfNums cs), .int .i64 p] 93)) w7 93 (.slice la5 A.length lc5) v' (enc A) [(strOfNums cs, p)] → ∃ a3 c3, v' = .slice a3 (A.length + 1) c3 ∧ w7.frozen? ⟨R, 4, none⟩ = false ∧ (∃ u, w7.cell? ⟨R, 4, none⟩ = some u) ∧ RefL (w7.setCell ⟨R, 4, none⟩ (.slice a3 (A.length + 1) c3)) ok R K V N (A ++ [(cs, p)]) (rows.set p vs) ∧ Turns ok w5 (w7.setCell ⟨R, 4, none⟩ (.slice a3 (A.length + 1) c3))) := Lib.hid fun v' w7 hap => H5.out.grown (fun b hb => HOK.out b (Nat.le_trans Z5.out hb)) HZ.out n4 (x := (cs, p)) ⟨HCB.out, HPLT.out⟩ HLN2.out hap
              clear hP5 e5 ep
              go_wp2_with (at_builtin; refine wpList_append_p (by rfl) _ _ 85 (by rfl) 93 i0 (.agg #[.string .empty, .int .i64 0]) 24 Try.underlying85 hin hz0 hz1 hz2 rfl _ (enc A) (by rfl) HQ.out [(strOfNums cs, p)] _ (by rfl) HSRC.out (app_fitsP HFT.out).1 (app_fitsP HFT.out).2 ?_; intro v' w7 hap; obtain ⟨a7, c7, rfl, gf7, ⟨u7, gc7⟩, h7, t7⟩ := KEY2.out _ _ hap; have H7 := Lib.hid h7; have T7 := Lib.hid t7; clear hap h7 t7)
              go_ret
              exact ⟨by rw [HR.out, HFR.out]; rfl, by rw [HR.out, HFR.out]; exact H7.out, turns_trans T5.out T7.out⟩
      · obtain rfl : p = N := num_eqR hpl hlt
        have HFR : Hid (freeO A p = none) := Lib.hid (freeO_no HUS.out)
        clear hlt hpl
        go_wp2_with fail
        go_ret
        exact ⟨by rw [HR.out, HFR.out]; rfl, by rw [HR.out, HFR.out]; exact HR3.out, turns_new HB3.out⟩
end
end Go.Proofs.Ytpoinhfkgnkedaa.M
namespace Go.Proofs.Ytpoinhfkgnkedaa.M
open Go.RowKit
set_option linter.unusedVariables false
set_option linter.unusedSectionVars false
set_option linter.unusedSimpArgs false
noncomputable def updR (K V N : Nat) (A : LSt) (rows : List (List Int)) (ks vs : List Int) (f : Int) : Int × LSt × List (List Int) :=
  if KeyBad K ks ∨ vs.length ≠ V ∨ 2 < f then (2, A, rows) else match findK A (chs (kbits ks)) with
    | none => newA N A (chs (kbits ks)) rows vs f
    | some k => if f = 1 then (7, A, rows) else (0, A, rows.set (placeA A k) vs)
section
variable {w : World} {ok : Nat → Prop} {R K V N : Nat} {A : LSt} {rows : List (List Int)}
theorem RefL.update (h : RefL w ok R K V N A rows) (hok : ∀ b, w.heap.size ≤ b → ok b) (a vb : Option Addr) (c vc : Nat) {ks vs : List Int} (hs : Sees w (.slice a ks.length c) (u8s ks)) (hk : ByteL ks) (hvs : Sees w (.slice vb vs.length vc) (u8s vs)) (hv : ByteL vs) (f : Int) (hpn : (A.map (·.2)).Nodup) :
    Calls Try.prog 30 #[.pointer (some ⟨R, 0, none⟩), .slice a ks.length c, .slice vb vs.length vc, .int .u64 f] w fun e w' => e = .returned (.int .i64 (updR K V N A rows ks vs f).1) ∧ RefL w' ok R K V N (updR K V N A rows ks vs f).2.1 (updR K V N A rows ks vs f).2.2 ∧ Turns ok w w' := by
  by_cases hbad : KeyBad K ks ∨ vs.length ≠ V ∨ 2 < f
  · have e1 : updR K V N A rows ks vs f = (2, A, rows) := if_pos hbad
    rw [e1]
    refine (h.upd_bad a vb c vc hs hk f hbad).mono ?_
    rintro e w' ⟨rfl, hb⟩
    exact ⟨rfl, h.keep hb (by simp), turns_new hb⟩
  · have e1 : updR K V N A rows ks vs f = match findK A (chs (kbits ks)) with
      | none => newA N A (chs (kbits ks)) rows vs f
      | some k => if f = 1 then (7, A, rows) else (0, A, rows.set (placeA A k) vs) := if_neg hbad
    rw [not_or, not_or] at hbad
    obtain ⟨h1, h2, h3⟩ := hbad
    have h2 : vs.length = V := Classical.not_not.1 h2
    cases hf : findK A (chs (kbits ks)) with
    | none =>
      rw [e1, hf]
      exact h.upd_new hok a vb c vc hs hk hvs hv f h1 h2 h3 hf hpn
    | some k =>
      rw [e1, hf]
      dsimp only
      refine (h.upd_hit hok a vb c vc hs hk hvs hv f h1 h2 h3 hf).mono ?_
      rintro e w' ⟨rfl, hr, ht⟩
      by_cases hf1 : f = 1
      · rw [if_pos hf1, if_pos hf1] at *
        exact ⟨rfl, hr, ht⟩
      · rw [if_neg hf1, if_neg hf1] at *
        exact ⟨rfl, hr, ht⟩
end
/-- The row of keys tells the map of paths. -/
structure AE (A : LSt) (E : EMap) : Prop where
  into : ∀ π p, E π = some p → (chs π, p) ∈ A
  back : ∀ cs p, (cs, p) ∈ A → ∃ π, cs = chs π ∧ E π = some p
  keys : (A.map (·.1)).Nodup
  places : (A.map (·.2)).Nodup
theorem chs_inj {π ρ : List Int} (h : chs π = chs ρ) : π = ρ := by
  unfold chs at h
  exact (List.map_inj_right (fun a b (e : 48 + a = 48 + b) => by omega)).1 h
theorem AE.nil : AE [] (fun _ => none) := ⟨fun π p h => (by cases h), fun cs p h => (by cases h), List.nodup_nil, List.nodup_nil⟩
theorem AE.find {A : LSt} {E : EMap} (h : AE A E) (π : List Int) : (E π = none ∧ findK A (chs π) = none) ∨ ∃ p k, E π = some p ∧ findK A (chs π) = some k ∧ placeA A k = p := by
  cases hf : findK A (chs π) with
  | none =>
    refine .inl ⟨?_, rfl⟩
    cases he : E π with
    | none => rfl
    | some p =>
      have h1 := List.findIdx?_eq_none_iff.1 hf _ (h.into π p he)
      simp at h1
  | some k =>
    obtain ⟨hk, hp, -⟩ := List.findIdx?_eq_some_iff_getElem.1 hf
    simp only [decide_eq_true_eq] at hp
    obtain ⟨ρ, e1, e2⟩ := h.back A[k].1 A[k].2 (List.getElem_mem hk)
    rw [hp] at e1
    have := chs_inj e1
    subst this
    exact .inr ⟨A[k].2, k, e2, rfl, by unfold placeA; rw [List.getElem?_eq_getElem hk]; rfl⟩
theorem chs_take (π : List Int) (n : Nat) : (chs π).take n = chs (π.take n) := by unfold chs; rw [List.map_take]
theorem AE.lookN {A : LSt} {E : EMap} (h : AE A E) (π : List Int) : ∀ n, lookN A (chs π) n = (placeO (((List.range n).map fun i => π.take i).filterMap E).getLast?, errO (((List.range n).map fun i => π.take i).filterMap E).getLast?)
  | 0 => rfl
  | n + 1 => by
    rw [M.lookN, chs_take, List.range_succ, List.map_append, List.filterMap_append]
    rcases h.find (π.take n) with ⟨h1, h2⟩ | ⟨p, k, h1, h2, h3⟩
    · rw [h2]
      dsimp only
      rw [h.lookN π n]
      simp [h1]
    · rw [h2]
      dsimp only
      rw [h3]
      simp [h1, placeO, errO]
theorem AE.look {A : LSt} {E : EMap} (h : AE A E) (K : Nat) (ks : List Int) : lookR K A ks = lookT K E ks := by
  unfold lookR lookT
  split
  · rfl
  · rw [h.lookN]
    rfl
theorem AE.used {A : LSt} {E : EMap} (h : AE A E) (p : Nat) : usedA A p = usedE E p := by
  rw [Bool.eq_iff_iff, usedE_iff]
  unfold usedA
  rw [List.any_eq_true]
  constructor
  · rintro ⟨x, hx, hp⟩
    obtain ⟨π, -, h2⟩ := h.back x.1 x.2 hx
    exact ⟨π, by rw [h2]; congr 1; simpa using hp⟩
  · rintro ⟨π, hp⟩
    exact ⟨_, h.into π p hp, by simp⟩
theorem AE.del {A : LSt} {E : EMap} (h : AE A E) (K : Nat) (ks : List Int) : (delR K A ks).1 = (delT K E ks).1 ∧ AE (delR K A ks).2 (delT K E ks).2 := by
  unfold delR delT
  split
  · exact ⟨rfl, h⟩
  · rcases h.find (kbits ks) with ⟨h1, h2⟩ | ⟨p, k, h1, h2, h3⟩
    · rw [h2, if_pos h1]
      exact ⟨rfl, h⟩
    · rw [h2, if_neg (by rw [h1]; simp)]
      refine ⟨rfl, ?_⟩
      show AE (A.eraseIdx k) (putE E (kbits ks) none)
      obtain ⟨hk, hp, -⟩ := List.findIdx?_eq_some_iff_getElem.1 h2
      simp only [decide_eq_true_eq] at hp
      have hnk := h.keys
      have hnp := h.places
      have hmem : ∀ x, x ∈ A.eraseIdx k ↔ x ∈ A ∧ x.1 ≠ chs (kbits ks) := fun x => by
        rw [List.mem_eraseIdx_iff_getElem]
        constructor
        · rintro ⟨i, hi, hne, rfl⟩
          refine ⟨List.getElem_mem _, fun e => hne ?_⟩
          exact (List.getElem_inj (h₀ := by simpa using hi) (h₁ := by simpa using hk) hnk).1 (by rw [List.getElem_map, List.getElem_map, e, hp])
        · rintro ⟨hm, hne⟩
          obtain ⟨i, hi, rfl⟩ := List.getElem_of_mem hm
          exact ⟨i, hi, fun e => hne (by subst e; exact hp), rfl⟩
      refine ⟨fun π q hq => ?_, fun cs q hq => ?_, ?_, ?_⟩
      · by_cases e : π = kbits ks
        · subst e; rw [putE_at] at hq; cases hq
        · rw [putE_ne _ _ e] at hq
          exact (hmem _).2 ⟨h.into π q hq, fun e2 => e (chs_inj e2)⟩
      · obtain ⟨h4, h5⟩ := (hmem _).1 hq
        obtain ⟨π, rfl, h6⟩ := h.back cs q h4
        exact ⟨π, rfl, by rw [putE_ne _ _ (fun e => h5 (by rw [e]))]; exact h6⟩
      · exact hnk.sublist ((List.eraseIdx_sublist A k).map _)
      · exact hnp.sublist ((List.eraseIdx_sublist A k).map _)
theorem AE.more {A : LSt} {E : EMap} (h : AE A E) {π : List Int} {p : Nat} (h1 : E π = none) (hu : usedA A p = false) : AE (A ++ [(chs π, p)]) (putE E π (some p)) := by
  have hno : ∀ q, (chs π, q) ∉ A := fun q hq => by
    obtain ⟨ρ, e1, e2⟩ := h.back _ q hq
    have := chs_inj e1
    subst this
    rw [h1] at e2
    cases e2
  refine ⟨fun ρ q hq => ?_, fun cs q hq => ?_, ?_, ?_⟩
  · by_cases e : ρ = π
    · subst e; rw [putE_at] at hq; cases hq; simp
    · rw [putE_ne _ _ e] at hq
      exact List.mem_append_left _ (h.into ρ q hq)
  · rcases List.mem_append.1 hq with hq | hq
    · obtain ⟨ρ, rfl, e2⟩ := h.back cs q hq
      refine ⟨ρ, rfl, ?_⟩
      rw [putE_ne _ _ (fun e => hno q (by rw [← e]; exact hq))]
      exact e2
    · simp only [List.mem_singleton, Prod.mk.injEq] at hq
      obtain ⟨rfl, rfl⟩ := hq
      exact ⟨π, rfl, putE_at _ _ _⟩
  · rw [List.map_append, List.nodup_append]
    refine ⟨h.keys, by simp, fun x hx y hy => ?_⟩
    simp only [List.map_cons, List.map_nil, List.mem_singleton] at hy
    subst hy
    rintro rfl
    obtain ⟨z, hz, e⟩ := List.mem_map.1 hx
    exact hno z.2 (by rw [← e]; exact hz)
  · rw [List.map_append, List.nodup_append]
    refine ⟨h.places, by simp, fun x hx y hy => ?_⟩
    simp only [List.map_cons, List.map_nil, List.mem_singleton] at hy
    subst hy
    rintro rfl
    obtain ⟨z, hz, e⟩ := List.mem_map.1 hx
    have : usedA A x = true := List.any_eq_true.2 ⟨z, hz, by simp [e]⟩
    rw [this] at hu
    cases hu
theorem AE.upd {A : LSt} {E : EMap} (h : AE A E) (K V N : Nat) (rows : List (List Int)) (ks vs : List Int) (f : Int) : (updR K V N A rows ks vs f).1 = (updT K V N E rows ks vs f).1 ∧ (updR K V N A rows ks vs f).2.2 = (updT K V N E rows ks vs f).2.2 ∧ AE (updR K V N A rows ks vs f).2.1 (updT K V N E rows ks vs f).2.1 := by
  have hfr : freeO A N = freeI (usedE E) N := by
    unfold freeO freeI
    congr 1
    funext p
    rw [h.used]
  unfold updR updT
  split
  · exact ⟨rfl, rfl, h⟩
  · rcases h.find (kbits ks) with ⟨h1, h2⟩ | ⟨p, k, h1, h2, h3⟩
    · rw [h2, h1]
      dsimp only
      unfold newA
      rw [hfr]
      split
      · exact ⟨rfl, rfl, h⟩
      · cases hfi : freeI (usedE E) N with
        | none => exact ⟨rfl, rfl, h⟩
        | some p =>
          rw [← hfr] at hfi
          have hu : usedA A p = false := by
            have := List.find?_some hfi
            simpa using this
          exact ⟨rfl, rfl, h.more h1 hu⟩
    · rw [h2, h1]
      dsimp only
      rw [h3]
      split
      · exact ⟨rfl, rfl, h⟩
      · exact ⟨rfl, rfl, h⟩
end Go.Proofs.Ytpoinhfkgnkedaa.M
