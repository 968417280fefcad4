/-
  Value, Update, Set.
-/
import Derived.Test.YtkgoblpddjpcnaaGreatArrL
import Derived.Test.YtkgoblpddjpcnaaGreatCopyB
namespace Go.Proofs.YtkgoblpddjpcnaaGreat.M
open Go.RowKit Go.Shelf
set_option linter.unusedVariables false
set_option linter.unusedSectionVars false
set_option linter.unusedSimpArgs false
set_option maxRecDepth 10000
attribute [local go_sem ↓] Go.wp_at_zero Go.wp_at_succ
section
variable {w : World} {ok : Nat → Prop} {A size : Nat} {rows : List (List Value)} {P K V F : Nat}
/-- The boxes of an Update. -/
structure UpBox (w : World) (P K V F : Nat) (p key val : Value) (f : Int) : Prop where
  cP : w.cell? ⟨P, 0, none⟩ = some p
  cK : w.cell? ⟨K, 0, none⟩ = some key
  cV : w.cell? ⟨V, 0, none⟩ = some val
  cF : w.cell? ⟨F, 0, none⟩ = some (.int .u64 f)
theorem UpBox.but {w w' : World} {p key val : Value} {f : Int} (h : UpBox w P K V F p key val f) (hb : But [] w w') : UpBox w' P K V F p key val f := ⟨cell_but hb h.cP (by simp), cell_but hb h.cK (by simp), cell_but hb h.cV (by simp), cell_but hb h.cF (by simp)⟩
theorem update1_off (p : Option Addr) (s2 s3 s4 : Value) (hv : OffA w (.pointer p)) (cP : w.cell? ⟨P, 0, none⟩ = some (.pointer p)) : Calls Tryz.prog 40 #[.pointer (some ⟨P, 0, none⟩), s2, s3, s4] w fun e w' => e = thrown 1 ∧ w = w' := by
  go_enter Tryz.func40, Tryz.ntmps40
  go_wp2_with (go_at_call 34; refine (known_off _ _ hv).mono ?_; rintro e w1 ⟨he, rfl⟩; dsimp only [thrown] at he; subst he)
  exact ⟨rfl, rfl, rfl⟩
theorem update1_bad (h : ArrS w ok A size rows) (a : Option Addr) (n c : Nat) (hn : n ≠ 4) (s3 s4 : Value) (cP : w.cell? ⟨P, 0, none⟩ = some (.pointer (some ⟨A, 0, none⟩))) (cK : w.cell? ⟨K, 0, none⟩ = some (.slice a n c)) : Calls Tryz.prog 40 #[.pointer (some ⟨P, 0, none⟩), .pointer (some ⟨K, 0, none⟩), s3, s4] w fun e w' => e = thrown 2 ∧ w = w' := by
  have H := Lib.hid h
  clear h
  go_enter Tryz.func40, Tryz.ntmps40
  go_wp2_with (first | (go_at_call 34; refine H.out.known.mono ?_; rintro e w1 ⟨rfl, rfl⟩) | (go_at_call 39; refine (place_no _ _ _ _ hn).mono ?_; rintro e w1 ⟨he, rfl⟩; dsimp only [thrown] at he; subst he))
  exact ⟨rfl, rfl, rfl⟩
set_option maxHeartbeats 1000000 in
theorem update1_arg {a1 : Option Addr} {m c1 : Nat} {f : Int} (h : ArrS w ok A size rows) (ad : Addr) (c : Nat) (k0 k1 k2 k3 : Int) (hk : KeyIn w ad k0 k1 k2 k3) (bx : UpBox w P K V F (.pointer (some ⟨A, 0, none⟩)) (.slice (some ad) 4 c) (.slice a1 m c1) f) (ha : m ≠ size ∨ 2 < f) : Calls Tryz.prog 40 #[.pointer (some ⟨P, 0, none⟩), .pointer (some ⟨K, 0, none⟩), .pointer (some ⟨V, 0, none⟩), .pointer (some ⟨F, 0, none⟩)] w fun e w' => e = thrown 2 ∧ But [] w w' := by
  have H := Lib.hid h
  obtain ⟨N, hN⟩ : ∃ N, N = sumK (keyItems k0 k1 k2 k3) := ⟨_, rfl⟩
  have HP : Hid (Calls Tryz.prog 39 #[.slice (some ad) 4 c] w fun e w' => e = .returned (.int .i64 N) ∧ But [] w w') := Lib.hid (by rw [hN]; exact place_yes ad c k0 k1 k2 k3 w hk.at')
  have BX := Lib.hid bx
  obtain ⟨cP, cK, cV, cF⟩ := bx
  obtain ⟨hA, ⟨a0, c0, vals, h1, h2, h3, h4, h6, h5⟩, g1, g2, g3⟩ := h
  have cS : w.cell? ⟨A, 1, none⟩ = some (.int .i64 size) := cl_of h1 1
  clear h1 h2 h3 h4 h5 h6 g1 g3 hA
  clear hN
  go_enter Tryz.func40, Tryz.ntmps40
  go_upto_region 3 with (first | (go_at_call 34; refine H.out.known.mono ?_; rintro e w1 ⟨rfl, rfl⟩) | (go_at_call 39; refine HP.out.mono ?_; rintro e w1 ⟨rfl, hb⟩; have HB := Lib.hid hb; obtain ⟨dP, dK, dV, dF⟩ := BX.out.but hb; have dS := cell_but hb cS (by simp); clear hb))
  clear cP cK cV cF cS
  rcases (by omega : m ≠ size ∨ (m = size ∧ 2 < f)) with hm | ⟨rfl, hf⟩
  · have b1 : ((m : Int) == (size : Int)) = false := by simp; omega
    have b2 : (m == size) = false := by simpa using hm
    clear ha
    refine wp_region_tail9 11 (by kernel_rfl) (by kernel_rfl) ?_
    simp only [List.take_succ_cons, List.take_zero, List.drop_succ_cons, List.drop_zero]
    repeat still_step
    refine wpStill_nil ?_
    go_wp2_with (go_at_call 22; refine (must_no _ _).mono ?_; rintro e w2 ⟨he, rfl⟩; dsimp only [thrown] at he; subst he)
    exact ⟨rfl, rfl, HB.out.drew⟩
  · have b1 : decide (f ≤ 2) = false := by simp; omega
    clear ha
    refine wp_region_tail9 11 (by kernel_rfl) (by kernel_rfl) ?_
    simp only [List.take_succ_cons, List.take_zero, List.drop_succ_cons, List.drop_zero]
    repeat still_step
    refine wpStill_nil ?_
    go_wp2_with (go_at_call 22; refine (must_no _ _).mono ?_; rintro e w2 ⟨he, rfl⟩; dsimp only [thrown] at he; subst he)
    exact ⟨rfl, rfl, HB.out.drew⟩
set_option maxHeartbeats 1000000 in
theorem update1_none {a1 : Option Addr} {m c1 : Nat} {f : Int} (h : ArrS w ok A size rows) (ad : Addr) (c : Nat) (k0 k1 k2 k3 : Int) (hk : KeyIn w ad k0 k1 k2 k3) (bx : UpBox w P K V F (.pointer (some ⟨A, 0, none⟩)) (.slice (some ad) 4 c) (.slice a1 m c1) f) (hm : size = m) (hf : f ≤ 2) (hn : sumK (keyItems k0 k1 k2 k3) < 0 ∨ (rows.length : Int) ≤ sumK (keyItems k0 k1 k2 k3)) : Calls Tryz.prog 40 #[.pointer (some ⟨P, 0, none⟩), .pointer (some ⟨K, 0, none⟩), .pointer (some ⟨V, 0, none⟩), .pointer (some ⟨F, 0, none⟩)] w fun e w' => e = thrown 6 ∧ But [] w w' := by
  subst hm
  have H := Lib.hid h
  obtain ⟨N, hN⟩ : ∃ N, N = sumK (keyItems k0 k1 k2 k3) := ⟨_, rfl⟩
  try rw [← hN] at hn
  have HP : Hid (Calls Tryz.prog 39 #[.slice (some ad) 4 c] w fun e w' => e = .returned (.int .i64 N) ∧ But [] w w') := Lib.hid (by rw [hN]; exact place_yes ad c k0 k1 k2 k3 w hk.at')
  have BX := Lib.hid bx
  obtain ⟨cP, cK, cV, cF⟩ := bx
  obtain ⟨hA, ⟨a0, c0, vals, h1, h2, h3, h4, h6, h5⟩, g1, g2, g3⟩ := h
  have cS : w.cell? ⟨A, 1, none⟩ = some (.int .i64 size) := cl_of h1 1
  clear h1 h2 h3 h4 h5 h6 g1 g3 hA
  have HN := Lib.hid hn
  clear hN hn
  go_enter Tryz.func40, Tryz.ntmps40
  go_upto_region 3 with (first | (go_at_call 34; refine H.out.known.mono ?_; rintro e w1 ⟨rfl, rfl⟩) | (go_at_call 39; refine HP.out.mono ?_; rintro e w1 ⟨rfl, hb⟩; have HB := Lib.hid hb; obtain ⟨dP, dK, dV, dF⟩ := BX.out.but hb; have dS := cell_but hb cS (by simp); clear hb))
  clear cP cK cV cF cS
  have b1 : decide (f ≤ 2) = true := by simpa using hf
  have b1' : decide ((1 : Int) ≤ 2) = true := by decide
  refine wp_region_tail9 11 (by kernel_rfl) (by kernel_rfl) ?_
  simp only [List.take_succ_cons, List.take_zero, List.drop_succ_cons, List.drop_zero]
  repeat still_step
  refine wpStill_nil ?_
  go_wp2_with (first | (go_at_call 36; refine (((H.out.keep HB.out (by simp)).keep ((But.refl [] _).drew) (by simp)).atNo _ HN.out).mono ?_; rintro e w2 ⟨he, rfl⟩; dsimp only [thrown] at he; subst he) | (go_at_call 22; refine (must_yes _ _).mono ?_; rintro e w2 ⟨rfl, rfl⟩))
  exact ⟨rfl, rfl, HB.out.drew⟩
set_option maxHeartbeats 1000000 in
theorem update1_there {a1 : Option Addr} {m c1 : Nat} (h : ArrS w ok A size rows) (ad : Addr) (c : Nat) (k0 k1 k2 k3 : Int) (hk : KeyIn w ad k0 k1 k2 k3) (bx : UpBox w P K V F (.pointer (some ⟨A, 0, none⟩)) (.slice (some ad) 4 c) (.slice a1 m c1) 1) (hm : size = m) (j : Nat) (hj : sumK (keyItems k0 k1 k2 k3) = j) (hjl : j < rows.length) : Calls Tryz.prog 40 #[.pointer (some ⟨P, 0, none⟩), .pointer (some ⟨K, 0, none⟩), .pointer (some ⟨V, 0, none⟩), .pointer (some ⟨F, 0, none⟩)] w fun e w' => e = thrown 7 ∧ But [] w w' := by
  subst hm
  have hf : (1 : Int) ≤ 2 := by decide
  obtain ⟨r, hr⟩ : ∃ r, rows[j]? = some r := ⟨_, List.getElem?_eq_getElem hjl⟩
  have HR := Lib.hid hr
  clear hr
  have H := Lib.hid h
  obtain ⟨N, hN⟩ : ∃ N, N = sumK (keyItems k0 k1 k2 k3) := ⟨_, rfl⟩
  have HP : Hid (Calls Tryz.prog 39 #[.slice (some ad) 4 c] w fun e w' => e = .returned (.int .i64 N) ∧ But [] w w') := Lib.hid (by rw [hN]; exact place_yes ad c k0 k1 k2 k3 w hk.at')
  have BX := Lib.hid bx
  obtain ⟨cP, cK, cV, cF⟩ := bx
  obtain ⟨hA, ⟨a0, c0, vals, h1, h2, h3, h4, h6, h5⟩, g1, g2, g3⟩ := h
  have cS : w.cell? ⟨A, 1, none⟩ = some (.int .i64 size) := cl_of h1 1
  clear h1 h2 h3 h4 h5 h6 g1 g3 hA
  obtain rfl : N = j := by omega
  clear hN hj
  go_enter Tryz.func40, Tryz.ntmps40
  go_upto_region 3 with (first | (go_at_call 34; refine H.out.known.mono ?_; rintro e w1 ⟨rfl, rfl⟩) | (go_at_call 39; refine HP.out.mono ?_; rintro e w1 ⟨rfl, hb⟩; have HB := Lib.hid hb; obtain ⟨dP, dK, dV, dF⟩ := BX.out.but hb; have dS := cell_but hb cS (by simp); clear hb))
  clear cP cK cV cF cS
  have b1' : decide ((1 : Int) ≤ 2) = true := by decide
  refine wp_region_tail9 11 (by kernel_rfl) (by kernel_rfl) ?_
  simp only [List.take_succ_cons, List.take_zero, List.drop_succ_cons, List.drop_zero]
  repeat still_step
  refine wpStill_nil ?_
  go_wp2_with (first | (go_at_call 36; refine (((H.out.keep HB.out (by simp)).keep ((But.refl [] _).drew) (by simp)).at j r HR.out).mono ?_; rintro e w2 ⟨av, cv, rfl, -, -, rfl⟩) | (with_reducible go_at_call 22; with_reducible refine (must_yes _ _).mono ?_; rintro e w2 ⟨rfl, rfl⟩) | (go_at_call 22; refine (must_no _ _).mono ?_; rintro e w2 ⟨he, rfl⟩; dsimp only [thrown] at he; subst he))
  exact ⟨rfl, rfl, HB.out.drew⟩
set_option maxHeartbeats 2000000 in
theorem update1_ok {a1 : Option Addr} {m c1 : Nat} {f : Int} (h : ArrS w ok A size rows) (ad : Addr) (c : Nat) (k0 k1 k2 k3 : Int) (hk : KeyIn w ad k0 k1 k2 k3) (bx : UpBox w P K V F (.pointer (some ⟨A, 0, none⟩)) (.slice (some ad) 4 c) (.slice a1 m c1) f) (hm : size = m) (hf : f ≤ 2) (hf1 : f ≠ 1) (j : Nat) (hj : sumK (keyItems k0 k1 k2 k3) = j) (hjl : j < rows.length) {xs : List Value} (hx : Sees w (.slice a1 m c1) xs) (hxl : xs.length = size) (hxb : ∀ u ∈ xs, ∃ n : Int, u = .int .u8 n) : Calls Tryz.prog 40 #[.pointer (some ⟨P, 0, none⟩), .pointer (some ⟨K, 0, none⟩), .pointer (some ⟨V, 0, none⟩), .pointer (some ⟨F, 0, none⟩)] w fun e w' => e = .returned (.int .i64 size) ∧ ArrS w' ok A size (rows.set j xs) ∧ ∃ g, ok g ∧ But [g] w w' := by
  subst hm
  have b3 : (f != 1) = true := by simpa using hf1
  obtain ⟨r, hr⟩ : ∃ r, rows[j]? = some r := ⟨_, List.getElem?_eq_getElem hjl⟩
  have hrl := (h.each r (List.mem_of_getElem? hr)).2
  have HRL := Lib.hid hrl
  have HR := Lib.hid hr
  have HX := Lib.hid hx
  have HXL := Lib.hid hxl
  have HXB := Lib.hid hxb
  clear hr hx hxl hxb hf1 hrl
  have H := Lib.hid h
  obtain ⟨N, hN⟩ : ∃ N, N = sumK (keyItems k0 k1 k2 k3) := ⟨_, rfl⟩
  have HP : Hid (Calls Tryz.prog 39 #[.slice (some ad) 4 c] w fun e w' => e = .returned (.int .i64 N) ∧ But [] w w') := Lib.hid (by rw [hN]; exact place_yes ad c k0 k1 k2 k3 w hk.at')
  have BX := Lib.hid bx
  obtain ⟨cP, cK, cV, cF⟩ := bx
  obtain ⟨hA, ⟨a0, c0, vals, h1, h2, h3, h4, h6, h5⟩, g1, g2, g3⟩ := h
  have cS : w.cell? ⟨A, 1, none⟩ = some (.int .i64 size) := cl_of h1 1
  clear h1 h2 h3 h4 h5 h6 g1 g3 hA
  obtain rfl : N = j := by omega
  clear hN hj
  go_enter Tryz.func40, Tryz.ntmps40
  go_upto_region 3 with (first | (go_at_call 34; refine H.out.known.mono ?_; rintro e w1 ⟨rfl, rfl⟩) | (go_at_call 39; refine HP.out.mono ?_; rintro e w1 ⟨rfl, hb⟩; have HB := Lib.hid hb; obtain ⟨dP, dK, dV, dF⟩ := BX.out.but hb; have dS := cell_but hb cS (by simp); clear hb))
  clear cP cK cV cF cS
  have b1 : decide (f ≤ 2) = true := by simpa using hf
  have b1' : decide ((1 : Int) ≤ 2) = true := by decide
  refine wp_region_tail9 11 (by kernel_rfl) (by kernel_rfl) ?_
  simp only [List.take_succ_cons, List.take_zero, List.drop_succ_cons, List.drop_zero]
  repeat still_step
  refine wpStill_nil ?_
  go_wp2_with (first | (go_at_call 36; refine (((H.out.keep HB.out (by simp)).keep ((But.refl [] _).drew) (by simp)).at j r HR.out).mono ?_; rintro e w2 ⟨av, cv, rfl, -, hva, rfl⟩; obtain ⟨g, o, cur, rfl, hg, hok, hos, hwr⟩ := ((H.out.keep HB.out (by simp)).keep ((But.refl [] _).drew) (by simp)).write HR.out hva; have HG := Lib.hid hg; have HWR := Lib.hid hwr; have HOK := Lib.hid hok; have HOS := Lib.hid hos; clear hva hg hwr hok hos) | (go_at_call 22; refine (must_yes _ _).mono ?_; rintro e w2 ⟨rfl, rfl⟩) | ((with_reducible refine (show wpList _ _ _ (⟨some 33, _, _, _, _, _⟩ :: _) _ _ from ?_)); refine wpList_copy_but rfl (.tmp 31) (.tmp 32) 36 36 rfl 5 Tryz.underlying36 (by kernel_rfl) (some ⟨g, o, none⟩) a1 size cv size c1 rfl rfl g o cur.toList 5 (by rw [Array.toArray_toList]; exact HG.out) xs (by rw [HXL.out]; exact (Nat.min_self _).symm) (fun h0 => ⟨rfl, sees_src (HX.out.but (HB.out.drew) (by simp)) h0⟩) (by rw [HXL.out, Array.length_toList]; exact HOS.out) (IsBytes.one HXB.out) ?_; intro w5 hg5 hb5; have H5 := Lib.hid (HWR.out 0 xs w5 (by rw [HXL.out]; omega) HXB.out hg5 hb5); have HB5 := Lib.hid hb5; clear hg5 hb5))
  go_ret
  refine ⟨by rw [HXL.out]; rfl, ?_, g, HOK.out, (HB.out.drew.mono (by simp)).trans HB5.out (fun x hx => .inl hx)⟩
  have h5 := H5.out
  rw [splice_all (by rw [HXL.out, HRL.out])] at h5
  exact h5
/-- The boxes of a Set. -/
structure SetBox (w : World) (P K V F : Nat) (p val : Value) (n f : Int) : Prop where
  cP : w.cell? ⟨P, 0, none⟩ = some p
  cK : w.cell? ⟨K, 0, none⟩ = some (.int .i64 n)
  cV : w.cell? ⟨V, 0, none⟩ = some (.int .i64 f)
  cF : w.cell? ⟨F, 0, none⟩ = some val
theorem set1_off (p : Option Addr) (s2 s3 s4 : Value) (hv : OffA w (.pointer p)) (cP : w.cell? ⟨P, 0, none⟩ = some (.pointer p)) : Calls Tryz.prog 41 #[.pointer (some ⟨P, 0, none⟩), s2, s3, s4] w fun e w' => e = thrown 1 ∧ w = w' := by
  go_enter Tryz.func41, Tryz.ntmps41
  go_wp2_with (go_at_call 34; refine (known_off _ _ hv).mono ?_; rintro e w1 ⟨he, rfl⟩; dsimp only [thrown] at he; subst he)
  exact ⟨rfl, rfl, rfl⟩
set_option maxHeartbeats 1000000 in
theorem set1_none {val : Value} {f n : Int} (h : ArrS w ok A size rows) (bx : SetBox w P K V F (.pointer (some ⟨A, 0, none⟩)) val n f) (hn : n < 0 ∨ (rows.length : Int) ≤ n) : Calls Tryz.prog 41 #[.pointer (some ⟨P, 0, none⟩), .pointer (some ⟨K, 0, none⟩), .pointer (some ⟨V, 0, none⟩), .pointer (some ⟨F, 0, none⟩)] w fun e w' => e = thrown 6 ∧ But [] w w' := by
  have H := Lib.hid h
  have HN := Lib.hid hn
  obtain ⟨cP, cK, cV, cF⟩ := bx
  clear h hn cF
  go_enter Tryz.func41, Tryz.ntmps41
  go_upto_region 2 with (go_at_call 34; refine H.out.known.mono ?_; rintro e w1 ⟨rfl, rfl⟩)
  refine wp_region_tail9 4 (by kernel_rfl) (by kernel_rfl) ?_
  simp only [List.take_succ_cons, List.take_zero, List.drop_succ_cons, List.drop_zero]
  repeat still_step
  refine wpStill_nil ?_
  go_wp2_with (go_at_call 36; refine ((H.out.keep ((But.refl [] _).drew) (by simp)).atNo _ HN.out).mono ?_; rintro e w2 ⟨he, rfl⟩; dsimp only [thrown] at he; subst he)
  exact ⟨rfl, rfl, (But.refl [] w).drew⟩
set_option maxHeartbeats 1000000 in
theorem set1_boundsA {a1 : Option Addr} {m c1 : Nat} {f : Int} (h : ArrS w ok A size rows) (j : Nat) (hjl : j < rows.length) (bx : SetBox w P K V F (.pointer (some ⟨A, 0, none⟩)) (.slice a1 m c1) j f) (hf : f < 0) : Calls Tryz.prog 41 #[.pointer (some ⟨P, 0, none⟩), .pointer (some ⟨K, 0, none⟩), .pointer (some ⟨V, 0, none⟩), .pointer (some ⟨F, 0, none⟩)] w fun e w' => e = thrown 32 ∧ But [] w w' := by
  have H := Lib.hid h
  obtain ⟨r, hr⟩ : ∃ r, rows[j]? = some r := ⟨_, List.getElem?_eq_getElem hjl⟩
  have HR := Lib.hid hr
  obtain ⟨cP, cK, cV, cF⟩ := bx
  have hsz := h.pos.2
  have d0 : decide (0 ≤ f) = false := by simp; omega
  clear hf
  clear h hr hjl
  go_enter Tryz.func41, Tryz.ntmps41
  go_upto_region 2 with (go_at_call 34; refine H.out.known.mono ?_; rintro e w1 ⟨rfl, rfl⟩)
  refine wp_region_tail9 4 (by kernel_rfl) (by kernel_rfl) ?_
  simp only [List.take_succ_cons, List.take_zero, List.drop_succ_cons, List.drop_zero]
  repeat still_step
  refine wpStill_nil ?_
  go_wp2_with (first | (go_at_call 36; refine ((H.out.keep ((But.refl [] _).drew) (by simp)).at j r HR.out).mono ?_; rintro e w2 ⟨av, cv, rfl, -, -, rfl⟩) | (with_reducible go_at_call 22; with_reducible refine (must_no _ _).mono ?_; rintro e w2 ⟨he, rfl⟩; dsimp only [thrown] at he; subst he))
  exact ⟨rfl, rfl, (But.refl [] w).drew⟩
set_option maxHeartbeats 1000000 in
theorem set1_boundsB {a1 : Option Addr} {m c1 : Nat} {f : Int} (h : ArrS w ok A size rows) (j : Nat) (hjl : j < rows.length) (bx : SetBox w P K V F (.pointer (some ⟨A, 0, none⟩)) (.slice a1 m c1) j f) (hf0 : 0 ≤ f) (hf : (size : Int) < f) : Calls Tryz.prog 41 #[.pointer (some ⟨P, 0, none⟩), .pointer (some ⟨K, 0, none⟩), .pointer (some ⟨V, 0, none⟩), .pointer (some ⟨F, 0, none⟩)] w fun e w' => e = thrown 32 ∧ But [] w w' := by
  have H := Lib.hid h
  obtain ⟨r, hr⟩ : ∃ r, rows[j]? = some r := ⟨_, List.getElem?_eq_getElem hjl⟩
  have HR := Lib.hid hr
  obtain ⟨cP, cK, cV, cF⟩ := bx
  have hsz := h.pos.2
  have d0 : decide (0 ≤ f) = true := by simp; omega
  have d1 : decide (f ≤ (size : Int)) = false := by simp; omega
  clear hf
  clear h hr hjl
  go_enter Tryz.func41, Tryz.ntmps41
  go_upto_region 2 with (go_at_call 34; refine H.out.known.mono ?_; rintro e w1 ⟨rfl, rfl⟩)
  refine wp_region_tail9 4 (by kernel_rfl) (by kernel_rfl) ?_
  simp only [List.take_succ_cons, List.take_zero, List.drop_succ_cons, List.drop_zero]
  repeat still_step
  refine wpStill_nil ?_
  go_wp2_with (first | (go_at_call 36; refine ((H.out.keep ((But.refl [] _).drew) (by simp)).at j r HR.out).mono ?_; rintro e w2 ⟨av, cv, rfl, -, -, rfl⟩) | (with_reducible go_at_call 22; with_reducible refine (must_no _ _).mono ?_; rintro e w2 ⟨he, rfl⟩; dsimp only [thrown] at he; subst he))
  exact ⟨rfl, rfl, (But.refl [] w).drew⟩
set_option maxHeartbeats 1000000 in
theorem set1_boundsC {a1 : Option Addr} {m c1 : Nat} {f : Int} (h : ArrS w ok A size rows) (j : Nat) (hjl : j < rows.length) (bx : SetBox w P K V F (.pointer (some ⟨A, 0, none⟩)) (.slice a1 m c1) j f) (hf0 : 0 ≤ f) (hf1 : f ≤ (size : Int)) (hf : (size : Int) - f < m) : Calls Tryz.prog 41 #[.pointer (some ⟨P, 0, none⟩), .pointer (some ⟨K, 0, none⟩), .pointer (some ⟨V, 0, none⟩), .pointer (some ⟨F, 0, none⟩)] w fun e w' => e = thrown 32 ∧ But [] w w' := by
  have H := Lib.hid h
  obtain ⟨r, hr⟩ : ∃ r, rows[j]? = some r := ⟨_, List.getElem?_eq_getElem hjl⟩
  have HR := Lib.hid hr
  obtain ⟨cP, cK, cV, cF⟩ := bx
  have hsz := h.pos.2
  have d0 : decide (0 ≤ f) = true := by simp; omega
  have d1 : decide (f ≤ (size : Int)) = true := by simp; omega
  have d2 : decide ((m : Int) ≤ (size : Int) - f) = false := by simp; omega
  clear hf
  clear h hr hjl
  go_enter Tryz.func41, Tryz.ntmps41
  go_upto_region 2 with (go_at_call 34; refine H.out.known.mono ?_; rintro e w1 ⟨rfl, rfl⟩)
  refine wp_region_tail9 4 (by kernel_rfl) (by kernel_rfl) ?_
  simp only [List.take_succ_cons, List.take_zero, List.drop_succ_cons, List.drop_zero]
  repeat still_step
  refine wpStill_nil ?_
  go_wp2_with (first | (go_at_call 36; refine ((H.out.keep ((But.refl [] _).drew) (by simp)).at j r HR.out).mono ?_; rintro e w2 ⟨av, cv, rfl, -, -, rfl⟩) | (with_reducible go_at_call 22; with_reducible refine (must_no _ _).mono ?_; rintro e w2 ⟨he, rfl⟩; dsimp only [thrown] at he; subst he))
  exact ⟨rfl, rfl, (But.refl [] w).drew⟩
set_option maxHeartbeats 2000000 in
theorem set1_ok {a1 : Option Addr} {m c1 k : Nat} (h : ArrS w ok A size rows) (j : Nat) (r : List Value) (hr : rows[j]? = some r) (bx : SetBox w P K V F (.pointer (some ⟨A, 0, none⟩)) (.slice a1 m c1) j k) (hk : k + m ≤ size) {xs : List Value} (hx : Sees w (.slice a1 m c1) xs) (hxl : xs.length = m) (hxb : ∀ u ∈ xs, ∃ n : Int, u = .int .u8 n) : Calls Tryz.prog 41 #[.pointer (some ⟨P, 0, none⟩), .pointer (some ⟨K, 0, none⟩), .pointer (some ⟨V, 0, none⟩), .pointer (some ⟨F, 0, none⟩)] w fun e w' => e = .returned (.int .i64 m) ∧ ArrS w' ok A size (rows.set j (splice r k xs)) ∧ ∃ g, ok g ∧ But [g] w w' := by
  have H := Lib.hid h
  have HR := Lib.hid hr
  have HX := Lib.hid hx
  have HXL := Lib.hid hxl
  have HXB := Lib.hid hxb
  obtain ⟨cP, cK, cV, cF⟩ := bx
  have hsz := h.pos.2
  have HCAP : Hid (∀ (av : Option Addr) (cv : Nat), OwnQ w.drew 5 (.slice av size cv) r → size ≤ cv) := Lib.hid fun av cv ho => by
    have hrl := (h.each r (List.mem_of_getElem? hr)).2
    rcases ho with ⟨h1, h2⟩ | ⟨_, _, _, _, h1, _, h2, _⟩
    · simp only [Value.slice.injEq] at h1; omega
    · simp only [Value.slice.injEq] at h1; obtain ⟨_, _, rfl⟩ := h1; omega
  have d0 : decide ((0 : Int) ≤ k) = true := by simp
  have d1 : decide (k ≤ size) = true := by simp; omega
  have d1' : decide ((k : Int) ≤ (size : Int)) = true := by simp; omega
  have d2 : decide ((m : Int) ≤ (size : Int) - k) = true := by simp; omega
  have hk0 : (0 : Int) ≤ k := by omega
  have hk1 : k ≤ size := by omega
  have hk2 : (k : Int) ≤ (size : Int) := by omega
  clear h hr hx hxl hxb
  go_enter Tryz.func41, Tryz.ntmps41
  go_upto_region 2 with (go_at_call 34; refine H.out.known.mono ?_; rintro e w1 ⟨rfl, rfl⟩)
  refine wp_region_tail9 4 (by kernel_rfl) (by kernel_rfl) ?_
  simp only [List.take_succ_cons, List.take_zero, List.drop_succ_cons, List.drop_zero]
  repeat still_step
  refine wpStill_nil ?_
  go_upto_region 4 with (first | (go_at_call 36; refine ((H.out.keep ((But.refl [] _).drew) (by simp)).at j r HR.out).mono ?_; rintro e w2 ⟨av, cv, rfl, hov, hva, rfl⟩; have hcap := HCAP.out _ _ hov; obtain ⟨g, o, cur, rfl, hg, hok, hos, hwr⟩ := (H.out.keep ((But.refl [] w).drew) (by simp)).write HR.out hva; have HG := Lib.hid hg; have HWR := Lib.hid hwr; have HOK := Lib.hid hok; have HOS := Lib.hid hos; clear hva hov hg hwr hok hos) | (with_reducible go_at_call 22; with_reducible refine (must_yes _ _).mono ?_; rintro e w2 ⟨rfl, rfl⟩))
  have e1 : w.drew.cell? ⟨V, 0, none⟩ = some (.int .i64 k) := cV
  have e2 : w.drew.cell? ⟨F, 0, none⟩ = some (.slice a1 m c1) := cF
  have hk3 : k ≤ cv := by omega
  have hmk : (size : Int) - k = ((size - k : Nat) : Int) := by omega
  by_cases hcv : cv = k
  · obtain rfl : cv = k := hcv
    obtain rfl : size = cv := by omega
    obtain rfl : m = 0 := by omega
    obtain rfl : xs = [] := List.eq_nil_of_length_eq_zero HXL.out
    refine wp_region_tail9 4 (by kernel_rfl) (by kernel_rfl) ?_
    simp only [List.take_succ_cons, List.take_zero, List.drop_succ_cons, List.drop_zero]
    repeat still_step
    refine wpStill_nil ?_
    go_wp2_with ((with_reducible refine (show wpList _ _ _ (⟨some 35, _, _, _, _, _⟩ :: _) _ _ from ?_)); refine wpList_copy_but rfl (.tmp 33) (.tmp 34) 36 36 rfl 5 Tryz.underlying36 (by kernel_rfl) (some ⟨g, o, none⟩) a1 0 0 0 c1 rfl rfl g (o + size) cur.toList 5 (by rw [Array.toArray_toList]; exact HG.out) [] (by simp) (fun h0 => by simp at h0) (by simp; exact HOS.out) (by simp) ?_; intro w5 hg5 hb5; have H5 := Lib.hid (HWR.out size [] w5 (by simp) HXB.out hg5 (((But.refl [g] _).drew).trans hb5 (fun x hx => .inl hx))); have HB5 := Lib.hid hb5; clear hg5 hb5)
    go_ret
    exact ⟨rfl, H5.out, g, HOK.out, (((But.refl [g] w).drew).drew).trans HB5.out (fun x hx => .inl hx)⟩
  · refine wp_region_tail9 4 (by kernel_rfl) (by kernel_rfl) ?_
    simp only [List.take_succ_cons, List.take_zero, List.drop_succ_cons, List.drop_zero]
    repeat still_step
    refine wpStill_nil ?_
    go_wp2_with ((with_reducible refine (show wpList _ _ _ (⟨some 35, _, _, _, _, _⟩ :: _) _ _ from ?_)); refine wpList_copy_but rfl (.tmp 33) (.tmp 34) 36 36 rfl 5 Tryz.underlying36 (by kernel_rfl) (some ⟨g, o + k, none⟩) a1 (size - k) (cv - k) m c1 rfl rfl g (o + k) cur.toList 5 (by rw [Array.toArray_toList]; exact HG.out) xs (by rw [HXL.out]; exact (Nat.min_eq_left (by omega)).symm) (fun h0 => ⟨rfl, sees_src (HX.out.but ((But.refl [] w).drew.drew) (by simp)) h0⟩) (by have hcl : cur.toList.length = cur.size := Array.length_toList; have := HXL.out; have := HOS.out; omega) (IsBytes.one HXB.out) ?_; intro w5 hg5 hb5; have H5 := Lib.hid (HWR.out k xs w5 (by have := HXL.out; omega) HXB.out hg5 (((But.refl [g] _).drew).trans hb5 (fun x hx => .inl hx))); have HB5 := Lib.hid hb5; clear hg5 hb5)
    go_ret
    exact ⟨by rw [HXL.out]; rfl, H5.out, g, HOK.out, (((But.refl [g] w).drew).drew).trans HB5.out (fun x hx => .inl hx)⟩
end
end Go.Proofs.YtkgoblpddjpcnaaGreat.M
