/-
  TrieNone: the walk.
-/
import Derived.Test.YtpoinhfkgnkedaaTrKey
import Derived.Test.YtpoinhfkgnkedaaTrNil
import Derived.Test.YtpoinhfkgnkedaaTLight
import Derived.BigQuiet
namespace Go.Proofs.Ytpoinhfkgnkedaa.M
open Go.RowKit
set_option linter.unusedVariables false
set_option linter.unusedSectionVars false
set_option linter.unusedSimpArgs false
/-- One deed in a row of one's own. -/
theorem sees_one {w : World} {x : DeedA} (h : DeedOk w x) : SeesDeeds (w.alloc (.cells x.cells.toArray 36)) (.slice (some ⟨w.heap.size, 0, none⟩) 1 1) [x] := by
  refine ⟨_, 1, rfl, fun i d hd => ?_⟩
  have hi : i = 0 := by have := (List.getElem?_eq_some_iff.1 hd).1; simp at this; omega
  subst hi
  simp at hd
  subst hd
  refine ⟨w.heap.size, 0, rfl, fun j v hj => ?_, h.new ((But.refl [] w).alloc _)⟩
  rw [cl_of (al_at _ _), show 0 + 0 * 6 + j = j by omega]
  simpa using hj
theorem two_lt {j : Nat} (h : j < 2) : (0 : Int) ≤ j ∧ (j : Int) < 2 ∧ wrap64 ((j : Int) + 1) = (j : Int) + 1 := by
  refine ⟨by omega, by omega, ?_⟩
  rw [wrap64]; omega
theorem two_meas {j : Nat} (h : j < 2) : 2 - (intOf (.int .i64 ((j : Int) + 1))).toNat < 2 - (intOf (.int .i64 (j : Int))).toNat := by
  simp only [intOf]
  omega
def Six (w : World) (b : Nat) (what : Int) (kv bv : Value) (flags place off : Int) : Prop := w.heap[b]? = some (.cells #[.int .i64 what, kv, bv, .int .u64 flags, .int .i64 place, .int .i64 off] 36)
def Four (w : World) (b : Nat) (k key val ent : Int) : Prop := w.heap[b]? = some (.cells #[.int .u8 k, .int .i64 key, .int .i64 val, .int .i64 ent] 24)
set_option maxRecDepth 100000 in
set_option maxHeartbeats 4000000 in
theorem trieNone (what flags place off : Int) (ka ba : Option Addr) (kc bc : Nat) (ks bs : List Int) (k key val ent : Int) (w : World) (hok : DeedOk w ⟨what, .slice ka ks.length kc, .slice ba bs.length bc, ks, bs, flags, place, off⟩) (hk : (Lit.int .u8 k).wf = true) :
    Calls Try.prog 6 #[.agg #[.int .i64 what, .slice ka ks.length kc, .slice ba bs.length bc, .int .u64 flags, .int .i64 place, .int .i64 off], .agg #[.int .u8 k, .int .i64 key, .int .i64 val, .int .i64 ent]] w fun e w' => e = .returned (.bool true) ∧ But [] w w' := by
  have HOK := Lib.hid hok
  clear hok
  go_enter Try.func6, Try.ntmps6
  go_wp2_with fail
  refine (awake _).mono ?_
  rintro e w1 ⟨rfl, hb1⟩
  have HS := Lib.hid (show Four w1 (w.heap.size + 1) k key val ent from hb1.heap (al_eq _ _ _ (by rw [size_alloc])) (by simp))
  have HD := Lib.hid (show Six w1 w.heap.size what (.slice ka ks.length kc) (.slice ba bs.length bc) flags place off from hb1.heap (al_keep (al_at w _) _) (by simp))
  have HB1 : Hid (But [] w w1) := Lib.hid ((((But.refl [] w).alloc _).alloc _).trans hb1 (by simp))
  clear hb1
  have s0 : w1.cell? ⟨w.heap.size + 1, 0, none⟩ = some (.int .u8 k) := cl_of HS.out 0
  have s1 : w1.cell? ⟨w.heap.size + 1, 1, none⟩ = some (.int .i64 key) := cl_of HS.out 1
  have s2 : w1.cell? ⟨w.heap.size + 1, 2, none⟩ = some (.int .i64 val) := cl_of HS.out 2
  have s3 : w1.cell? ⟨w.heap.size + 1, 3, none⟩ = some (.int .i64 ent) := cl_of HS.out 3
  have d0 : w1.cell? ⟨w.heap.size, 0, none⟩ = some (.int .i64 what) := cl_of HD.out 0
  have d1 : w1.cell? ⟨w.heap.size, 1, none⟩ = some (.slice ka ks.length kc) := cl_of HD.out 1
  have d2 : w1.cell? ⟨w.heap.size, 2, none⟩ = some (.slice ba bs.length bc) := cl_of HD.out 2
  have d3 : w1.cell? ⟨w.heap.size, 3, none⟩ = some (.int .u64 flags) := cl_of HD.out 3
  have d4 : w1.cell? ⟨w.heap.size, 4, none⟩ = some (.int .i64 place) := cl_of HD.out 4
  have d5 : w1.cell? ⟨w.heap.size, 5, none⟩ = some (.int .i64 off) := cl_of HD.out 5
  go_wp2_with fail
  refine (light k key val ent _ _ _ (sees_one (HOK.out.new HB1.out))).mono ?_
  rintro e w2 ⟨b, rfl, -, hw2⟩
  have HB2 : Hid (But [] w1 w2) := Lib.hid (by rw [hw2]; exact ((But.refl [] w1).alloc _).alloc _)
  clear hw2 s0 s1 s2 s3 d0 d1 d2 d3 d4 d5
  have HS2 := Lib.hid (show Four w2 (w.heap.size + 1) k key val ent from HB2.out.heap HS.out (by simp))
  have s0 : w2.cell? ⟨w.heap.size + 1, 0, none⟩ = some (.int .u8 k) := cl_of HS2.out 0
  have s1 : w2.cell? ⟨w.heap.size + 1, 1, none⟩ = some (.int .i64 key) := cl_of HS2.out 1
  have s2 : w2.cell? ⟨w.heap.size + 1, 2, none⟩ = some (.int .i64 val) := cl_of HS2.out 2
  have s3 : w2.cell? ⟨w.heap.size + 1, 3, none⟩ = some (.int .i64 ent) := cl_of HS2.out 3
  cases b
  · go_wp2_with fail
    go_ret
    exact ⟨rfl, HB1.out.trans HB2.out (by simp)⟩
  obtain ⟨E, hE⟩ : ∃ E, E = newE k key val ent := ⟨_, rfl⟩
  have HN := newAny k key val ent w2 hk
  rw [← hE] at HN
  have HN := Lib.hid HN
  have HR : Hid (∀ w, Calls Try.prog 20 #[.agg #[.int .u8 k, .int .i64 key, .int .i64 val, .int .i64 ent]] w fun e w' => ∃ p, e = .returned (.tuple #[p, .int .i64 E]) ∧ But [] w w') := Lib.hid (fun w => by rw [hE]; exact refNewAny k key val ent w)
  have hEE : (E != E) = false := by simp
  clear hE
  go_wp2_with fail
  refine HN.out.mono ?_
  rintro e w3 ⟨p3, rfl, hb3⟩
  have HB3 := Lib.hid (HB2.out.trans hb3 (by simp))
  clear hb3 s0 s1 s2 s3 HN
  have HS3 := Lib.hid (show Four w3 (w.heap.size + 1) k key val ent from HB3.out.heap HS.out (by simp))
  have s0 : w3.cell? ⟨w.heap.size + 1, 0, none⟩ = some (.int .u8 k) := cl_of HS3.out 0
  have s1 : w3.cell? ⟨w.heap.size + 1, 1, none⟩ = some (.int .i64 key) := cl_of HS3.out 1
  have s2 : w3.cell? ⟨w.heap.size + 1, 2, none⟩ = some (.int .i64 val) := cl_of HS3.out 2
  have s3 : w3.cell? ⟨w.heap.size + 1, 3, none⟩ = some (.int .i64 ent) := cl_of HS3.out 3
  go_wp2_with fail
  refine (HR.out _).mono ?_
  rintro e w4 ⟨p4, rfl, hb4⟩
  have HB4 := Lib.hid (HB3.out.trans hb4 (by simp))
  clear hb4 s0 s1 s2 s3 HS2 HS3
  go_wp2_with fail
  obtain ⟨W5, hW5⟩ : ∃ W5, W5 = (w4.alloc (.cells #[.int .u8 0, .int .i64 0, .int .i64 0, .int .i64 0, .pointer none, .slice none 0 0, .slice none 0 0] 59)).alloc (.cells #[.pointer none, .pointer (some ⟨w4.heap.size, 0, none⟩)] 29) := ⟨_, rfl⟩
  rw [← hW5]
  have hb5 : But [] w4 W5 := by rw [hW5]; exact ((But.refl [] w4).alloc _).alloc _
  have HP : Hid (∀ j, j < 2 → ∃ p, W5.cell? ⟨w4.heap.size + 1, j, none⟩ = some p ∧ NoOne W5 p) := Lib.hid fun j hj => by
    have hr : W5.heap[w4.heap.size + 1]? = some (.cells #[.pointer none, .pointer (some ⟨w4.heap.size, 0, none⟩)] 29) := by rw [hW5]; exact al_eq _ _ _ (by rw [size_alloc])
    match j, hj with
    | 0, _ => exact ⟨_, cl_of hr 0, .inl rfl⟩
    | 1, _ => exact ⟨_, cl_of hr 1, .inr ⟨_, rfl, by rw [hW5]; exact cl_of (al_keep (al_at w4 _) _) 4⟩⟩
  have HB5 := Lib.hid (HB4.out.trans hb5 (by simp))
  clear hb5 hW5 HN HR hEE
  go_loopw [10] (fun i wr => ∃ j : Nat, j ≤ 2 ∧ i = .int .i64 j ∧ But [] W5 wr) (fun i _ => 2 - (intOf i).toNat)
  case atStart => exact ⟨0, Nat.zero_le _, rfl, But.refl _ _⟩
  case round =>
    obtain ⟨j, hj, rfl, hb⟩ := hrel
    have HBW := Lib.hid hb
    clear hb
    by_cases hlt : j < 2
    · obtain ⟨hj0, hj2, hw1⟩ := two_lt hlt
      obtain ⟨p, hc, hno⟩ := HP.out j hlt
      have HNO := Lib.hid (hno.but HBW.out)
      have c1 : wr.cell? ⟨w4.heap.size + 1, j, none⟩ = some p := cell_but HBW.out hc (by simp)
      have HD5 := Lib.hid (show Six wr w.heap.size what (.slice ka ks.length kc) (.slice ba bs.length bc) flags place off from HBW.out.heap (HB5.out.heap HD.out (by simp)) (by simp))
      have d1 : wr.cell? ⟨w.heap.size, 1, none⟩ = some (.slice ka ks.length kc) := cl_of HD5.out 1
      have d2 : wr.cell? ⟨w.heap.size, 2, none⟩ = some (.slice ba bs.length bc) := cl_of HD5.out 2
      have d3 : wr.cell? ⟨w.heap.size, 3, none⟩ = some (.int .u64 flags) := cl_of HD5.out 3
      have d4 : wr.cell? ⟨w.heap.size, 4, none⟩ = some (.int .i64 place) := cl_of HD5.out 4
      have d5 : wr.cell? ⟨w.heap.size, 5, none⟩ = some (.int .i64 off) := cl_of HD5.out 5
      have HLT := Lib.hid hlt
      clear hc hno hlt
      go_wp2_with fail
      go_quiet ((go_at_call 14; exact Calls.quiet_of_same ((lookup_no (HNO.out.but ((But.refl [] _).drewN _)) _ _ _).mono fun _ _ h => ⟨h.1, h.2.symm⟩)))
      obtain ⟨w7, h7⟩ : ∃ wz, wz = wr.drewN nq := ⟨_, rfl⟩
      rw [← h7]
      replace c1 : w7.cell? ⟨w4.heap.size + 1, j, none⟩ = some p := by rw [h7]; exact c1
      replace d1 : w7.cell? ⟨w.heap.size, 1, none⟩ = some (.slice ka ks.length kc) := by rw [h7]; exact d1
      replace d2 : w7.cell? ⟨w.heap.size, 2, none⟩ = some (.slice ba bs.length bc) := by rw [h7]; exact d2
      replace d3 : w7.cell? ⟨w.heap.size, 3, none⟩ = some (.int .u64 flags) := by rw [h7]; exact d3
      replace d4 : w7.cell? ⟨w.heap.size, 4, none⟩ = some (.int .i64 place) := by rw [h7]; exact d4
      replace d5 : w7.cell? ⟨w.heap.size, 5, none⟩ = some (.int .i64 off) := by rw [h7]; exact d5
      replace HNO : Hid (NoOne w7 p) := Lib.hid (by rw [h7]; exact HNO.out.but ((But.refl [] _).drewN _))
      replace HBW : Hid (But [] W5 w7) := Lib.hid (by rw [h7]; exact HBW.out.drewN _)
      clear h7
      go_wp2_with fail
      go_quiet ((go_at_call 18; exact Calls.quiet_of_same ((value_no (HNO.out.but ((But.refl [] _).drewN _)) _).mono fun _ _ h => ⟨h.1, h.2.symm⟩)))
      obtain ⟨w8, h8⟩ : ∃ wz, wz = w7.drewN nq := ⟨_, rfl⟩
      rw [← h8]
      replace c1 : w8.cell? ⟨w4.heap.size + 1, j, none⟩ = some p := by rw [h8]; exact c1
      replace d1 : w8.cell? ⟨w.heap.size, 1, none⟩ = some (.slice ka ks.length kc) := by rw [h8]; exact d1
      replace d2 : w8.cell? ⟨w.heap.size, 2, none⟩ = some (.slice ba bs.length bc) := by rw [h8]; exact d2
      replace d3 : w8.cell? ⟨w.heap.size, 3, none⟩ = some (.int .u64 flags) := by rw [h8]; exact d3
      replace d4 : w8.cell? ⟨w.heap.size, 4, none⟩ = some (.int .i64 place) := by rw [h8]; exact d4
      replace d5 : w8.cell? ⟨w.heap.size, 5, none⟩ = some (.int .i64 off) := by rw [h8]; exact d5
      replace HNO : Hid (NoOne w8 p) := Lib.hid (by rw [h8]; exact HNO.out.but ((But.refl [] _).drewN _))
      replace HBW : Hid (But [] W5 w8) := Lib.hid (by rw [h8]; exact HBW.out.drewN _)
      clear h8
      go_wp2_with fail
      go_big_quiet (first | (go_at_call 12; exact Calls.quiet_of_same ((update_no (HNO.out.but ((But.refl [] _).drewN _)) _ _ _ _ _).mono fun _ _ h => ⟨h.1, h.2.symm⟩)) | (go_at_call 11; exact Calls.quiet_of_same ((delete_no (HNO.out.but ((But.refl [] _).drewN _)) _ _ _).mono fun _ _ h => ⟨h.1, h.2.symm⟩)) | (go_at_call 26; exact Calls.quiet_of_same ((set_no (HNO.out.but ((But.refl [] _).drewN _)) _ _ _).mono fun _ _ h => ⟨h.1, h.2.symm⟩)) | (go_at_call 13; exact Calls.quiet_of_same ((keys_no (HNO.out.but ((But.refl [] _).drewN _))).mono fun _ _ h => ⟨h.1, h.2.symm⟩)))
      go_wp2_with fail
      go_roundw
      case rel => exact ⟨j + 1, HLT.out, by go_num, HBW.out.drewN _⟩
      case measure => exact two_meas HLT.out
    · obtain rfl : j = 2 := num_eq hj hlt
      go_wp2_with fail
      go_ret
      exact ⟨rfl, (HB1.out.trans HB5.out (by simp)).trans HBW.out (by simp)⟩
theorem trieNone_walk (w : World) (x : DeedA) (s : MSpec) (hx : DeedOk w x) (hs : (Lit.int .u8 s.k).wf = true ∧ (Lit.int .i64 s.key).wf = true ∧ (Lit.int .i64 s.val).wf = true ∧ (Lit.int .i64 s.ent).wf = true) :
    Calls Try.prog 6 #[.agg x.cells.toArray, s.v] w fun e w' => e = .returned (.bool true) ∧ Below w.heap.size w w' := by
  obtain ⟨what, key, b, ks, bs, flags, place, off⟩ := x
  have hk := hx.key
  have hb := hx.b
  obtain ⟨a3, c3, e3, _⟩ := sees_shape hk
  obtain ⟨a5, c5, e5, _⟩ := sees_shape hb
  rw [u8s_len] at e3 e5
  dsimp only at e3 e5
  subst e3 e5
  exact (trieNone what flags place off a3 a5 c3 c5 ks bs s.k s.key s.val s.ent w hx hs.1).mono fun _ _ ⟨he, hb⟩ => ⟨he, hb.below (Nat.le_refl _) (by simp)⟩
end Go.Proofs.Ytpoinhfkgnkedaa.M
