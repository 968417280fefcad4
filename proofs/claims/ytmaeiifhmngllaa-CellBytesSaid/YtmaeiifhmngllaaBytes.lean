/-
  CellBytes: the walk.
-/
import Derived.Test.YtmaeiifhmngllaaAwake
import Derived.Test.YtmaeiifhmngllaaBytesA
import Derived.Test.YtmaeiifhmngllaaPick
namespace Go.Proofs.Ytmaeiifhmngllaa.M
open Go.RowKit
set_option linter.unusedVariables false
set_option linter.unusedSectionVars false
set_option linter.unusedSimpArgs false
theorem writeE_cases (off : Int) (n : Nat) (h : writeE off n ≠ 0) : (writeE off n = 2 ∧ 512 < n) ∨ (writeE off n = 32 ∧ n ≤ 512) := by
  unfold writeE at *
  unfold checkE at *
  by_cases h5 : n ≤ 512
  · rw [decide_eq_true h5, if_pos rfl] at *
    split at h
    · exact absurd rfl h
    · rename_i h1
      exact .inr ⟨if_neg h1, h5⟩
  · rw [decide_eq_false h5] at *
    exact .inl ⟨rfl, by omega⟩
theorem sees_ne {w w1 : World} {ad : Addr} {n c : Nat} {x : Int} {l : List Int} (hs : Sees w (.slice (some ad) n c) (u8s (x :: l))) (hb : But [] w w1) : ad.block ≠ w1.heap.size := by
  obtain ⟨a', c', he, hx⟩ := sees_shape hs
  obtain ⟨ad', rfl, h3⟩ := hx 0 _ rfl
  simp only [Value.slice.injEq] at he
  obtain ⟨he, _⟩ := he
  cases he
  have h4 := cell_lt h3
  rw [block_of_add] at h4
  have := hb.size
  omega
theorem wrote_one {o j : Nat} {bs : List Int} {S : Stk} {c : Nat} (h : WrSpec S0 S o bs.length bs.length c bs) (hon : o + bs.length ≤ 512) (hj : j < bs.length) : loadE S ((o : Int) + j) 1 = 0 ∧ loadV S ((o : Int) + j) 1 = ⟨1, leV ((bs.drop j).take 1), 0, 0⟩ :=
  ⟨wrote_loadE (n := 1) h hon hj (by decide), wrote_loadV (n := 1) h hon hj (by decide)⟩
theorem wrote_eight {o k : Nat} {bs : List Int} {S : Stk} {c : Nat} (h : WrSpec S0 S o bs.length bs.length c bs) (hon : o + bs.length ≤ 512) (hk : k + 8 ≤ bs.length) : loadE S ((o : Int) + k) 8 = 0 ∧ loadV S ((o : Int) + k) 8 = ⟨1, leV ((bs.drop k).take 8), 0, 0⟩ :=
  ⟨wrote_loadE (n := 8) h hon hk (by decide), wrote_loadV (n := 8) h hon hk (by decide)⟩
theorem toNat_two (k i : Nat) : ((k : Int) + i).toNat = k + i := by omega
theorem writeE_zero {off : Int} {n : Nat} (h : writeE off n = 0) : 0 ≤ off ∧ off + n ≤ 512 := by
  unfold writeE at h
  obtain ⟨h1, h2, h3⟩ := checkE_ok h
  exact ⟨h2, by omega⟩
set_option maxRecDepth 100000 in
set_option maxHeartbeats 4000000 in
theorem cellBytes_no (off at_ : Int) (a : Option Addr) (c : Nat) (bs : List Int) (w : World) (hs : Sees w (.slice a bs.length c) (u8s bs)) (hc : bs.length ≤ c) (h : 600 < bs.length ∨ writeE off bs.length ≠ 0) :
    Calls Try.prog 7 #[.int .i64 off, .slice a bs.length c, .int .i64 at_] w fun e w' => e = .returned (.bool true) ∧ But [] w w' := by
  have HS := Lib.hid hs
  by_cases h6 : (600 : Int) < bs.length
  · clear hs hc h
    go_enter Try.func7, Try.ntmps7
    go_wp2_with fail
    refine (awake _).mono ?_
    rintro e w1 ⟨rfl, hb1⟩
    have HB1 := Lib.hid hb1
    clear hb1
    go_wp2_with fail
    go_ret
    exact ⟨rfl, HB1.out⟩
  · have hE := h.resolve_left (by omega)
    have HC := Lib.hid hc
    have hl : bs.length ≤ 1000000000000 := by omega
    have HL := Lib.hid hl
    have HP : Hid (∀ w1, But [] w w1 → ∀ ad, a = some ad → bs ≠ [] → ad.block ≠ w1.heap.size) := Lib.hid fun w1 hb ad had hne => by
      subst had
      obtain ⟨x, l, rfl⟩ := List.exists_cons_of_ne_nil hne
      exact sees_ne hs hb
    have h6' : ¬ ((600 : Int) < bs.length) := h6
    clear hs hc hl h
    rcases writeE_cases off bs.length hE with ⟨h2, h5⟩ | ⟨h2, h5⟩
    · have hd : (512 : Int) < bs.length := by omega
      have HE := Lib.hid h2
      clear h2 h5 hE
      go_enter Try.func7, Try.ntmps7
      go_wp2_with fail
      refine (awake _).mono ?_
      rintro e w1 ⟨rfl, hb1⟩
      have HB1 := Lib.hid hb1
      clear hb1
      go_wp2_with fail
      refine (new_c w1).mono ?_
      rintro e w2 ⟨rfl, hB, hb2⟩
      have HW := Lib.hid (Write_c w1.heap.size S0 off a c bs w2 hB ((HS.out.but HB1.out (by simp)).but hb2 (by simp)) (HP.out w1 HB1.out) HC.out HL.out)
      have HB2 := Lib.hid (HB1.out.trans hb2 (by simp))
      clear hB hb2
      go_wp2_with fail
      refine HW.out.mono ?_
      rintro e w3 ⟨rfl, hB, hb3⟩
      rw [HE.out]
      have HB3 := Lib.hid (HB2.out.trans hb3 (fun x hx => .inr (by have := HB1.out.size; simp at hx; omega)))
      clear hB hb3 HW
      go_wp2_with fail
      go_ret
      exact ⟨rfl, HB3.out⟩
    · have hd : decide ((512 : Int) < bs.length) = false := decide_eq_false (by omega)
      have HE := Lib.hid h2
      clear h2 h5 hE
      go_enter Try.func7, Try.ntmps7
      go_wp2_with fail
      refine (awake _).mono ?_
      rintro e w1 ⟨rfl, hb1⟩
      have HB1 := Lib.hid hb1
      clear hb1
      go_wp2_with fail
      refine (new_c w1).mono ?_
      rintro e w2 ⟨rfl, hB, hb2⟩
      have HW := Lib.hid (Write_c w1.heap.size S0 off a c bs w2 hB ((HS.out.but HB1.out (by simp)).but hb2 (by simp)) (HP.out w1 HB1.out) HC.out HL.out)
      have HB2 := Lib.hid (HB1.out.trans hb2 (by simp))
      clear hB hb2
      go_wp2_with fail
      refine HW.out.mono ?_
      rintro e w3 ⟨rfl, hB, hb3⟩
      rw [HE.out]
      have HB3 := Lib.hid (HB2.out.trans hb3 (fun x hx => .inr (by have := HB1.out.size; simp at hx; omega)))
      clear hB hb3 HW
      go_wp2_with fail
      go_ret
      exact ⟨rfl, HB3.out⟩
theorem sees_keep {w w' : World} {a : Option Addr} {c P : Nat} {bs : List Int} (hs : Sees w (.slice a bs.length c) (u8s bs)) (hb : But [P] w w') (hP : ∀ ad, a = some ad → bs ≠ [] → ad.block ≠ P) : Sees w' (.slice a bs.length c) (u8s bs) := by
  by_cases hne : bs = []
  · subst hne
    rcases hs with h | ⟨ad, c', h1, h2, h3⟩
    · exact .inl h
    · exact .inr ⟨ad, c', h1, h2, fun j u h => by simp [u8s] at h⟩
  · exact hs.but hb (fun k hk hm => by
      simp only [List.mem_singleton] at hm
      subst hm
      cases a with
      | none => cases hk
      | some ad => cases hk; exact hP ad rfl hne rfl)
theorem leV_step {bs : List Int} {k i : Nat} (hk : k + 8 ≤ bs.length) (hi : i < 8) : leV ((bs.drop (k + i)).take (8 - i)) = leV ((bs.drop (k + (i + 1))).take (8 - (i + 1))) * 256 + bs.getD (k + i) 0 := by
  rw [List.drop_eq_getElem_cons (i := k + i) (by omega), show 8 - i = (8 - (i + 1)) + 1 by omega, List.take_succ_cons, leV_cons, List.getD_eq_getElem?_getD, List.getElem?_eq_getElem (by omega)]
  rfl
theorem sub_byte {bs : List Int} (h : ByteL bs) (k n : Nat) : ByteL ((bs.drop k).take n) := fun x hx => h x (List.mem_of_mem_drop (List.mem_of_mem_take hx))
theorem byte_at {bs : List Int} (h : ByteL bs) {j : Nat} (hj : j < bs.length) : 0 ≤ bs.getD j 0 ∧ bs.getD j 0 ≤ 255 := by
  rw [List.getD_eq_getElem?_getD, List.getElem?_eq_getElem hj]
  exact h _ (List.getElem_mem hj)
theorem one_at {bs : List Int} {j : Nat} (hj : j < bs.length) : leV ((bs.drop j).take 1) = bs.getD j 0 := by
  rw [List.drop_eq_getElem_cons (i := j) hj, show (1 : Nat) = 0 + 1 from rfl, List.take_succ_cons, leV_cons, List.getD_eq_getElem?_getD, List.getElem?_eq_getElem hj]
  simp [leV]
/-- What stands behind the write and the read. -/
structure CB (w : World) (P o : Nat) (a : Option Addr) (c : Nat) (bs : List Int) (S : Stk) (W : World) : Prop where
  blk : Blk W P 57 833 (S.val true)
  sees : Sees W (.slice a bs.length c) (u8s bs)
  but : But [] w W
theorem CB.to {w : World} {P o : Nat} {a : Option Addr} {c : Nat} {bs : List Int} {S : Stk} {W W' : World} (h : CB w P o a c bs S W) (hb : But [] W W') : CB w P o a c bs S W' :=
  ⟨h.blk.but hb (by simp), h.sees.but hb (by simp), h.but.trans hb (by simp)⟩
theorem CB.at {w : World} {P o : Nat} {a : Option Addr} {c : Nat} {bs : List Int} {S : Stk} {W : World} (h : CB w P o a c bs S W) {j : Nat} (hj : j < bs.length) : ∃ ad, a = some ad ∧ W.cell? (ad.add j) = some (.int .u8 (bs.getD j 0)) := by
  obtain ⟨a', c', he, hx⟩ := sees_shape h.sees
  simp only [Value.slice.injEq] at he
  obtain ⟨rfl, _⟩ := he
  exact hx j _ (by unfold u8s; rw [List.getElem?_map, List.getElem?_eq_getElem hj, List.getD_eq_getElem?_getD, List.getElem?_eq_getElem hj]; rfl)
set_option maxRecDepth 100000 in
set_option maxHeartbeats 4000000 in
theorem cellBytes_yes (o : Nat) (at_ : Int) (a : Option Addr) (c : Nat) (bs : List Int) (w : World) (hs : Sees w (.slice a bs.length c) (u8s bs)) (hby : ByteL bs) (hc : bs.length ≤ c) (hon : o + bs.length ≤ 512) (hat : -9223372036854775808 ≤ at_ ∧ at_ ≤ 9223372036854775807) :
    Calls Try.prog 7 #[.int .i64 (o : Int), .slice a bs.length c, .int .i64 at_] w fun e w' => e = .returned (.bool true) ∧ But [] w w' := by
  have hE : writeE o bs.length = 0 := by
    unfold writeE checkE
    rw [decide_eq_true (by omega), if_pos rfl, if_pos (by omega)]
  have HS := Lib.hid hs
  have HC := Lib.hid hc
  have HBY := Lib.hid hby
  have HAT := Lib.hid hat
  have HE := Lib.hid hE
  obtain ⟨S, hS⟩ : ∃ S, S = writeS S0 o bs := ⟨_, rfl⟩
  have HWS : Hid (WrSpec S0 S o bs.length bs.length (cntP o bs.length) bs) := Lib.hid (by
    rw [hS]
    unfold writeS
    rw [if_pos hE]
    exact wrote hby hon)
  have HP : Hid (∀ w1, But [] w w1 → ∀ ad, a = some ad → bs ≠ [] → ad.block ≠ w1.heap.size) := Lib.hid fun w1 hb ad had hne => by
    subst had
    obtain ⟨x, l, rfl⟩ := List.exists_cons_of_ne_nil hne
    exact sees_ne hs hb
  have HSS := Lib.hid hS
  have h6 : ¬ ((600 : Int) < bs.length) := by omega
  have hb0 : (0 : Int) ≤ bs.length := by omega
  clear hs hc hby hat hE hS
  go_enter Try.func7, Try.ntmps7
  go_wp2_with fail
  refine (awake _).mono ?_
  rintro e w1 ⟨rfl, hb1⟩
  have HB1 := Lib.hid hb1
  clear hb1
  go_wp2_with fail
  refine (new_c w1).mono ?_
  rintro e w2 ⟨rfl, hB, hb2⟩
  have hl : bs.length ≤ 1000000000000 := by omega
  have HW := Lib.hid (Write_c w1.heap.size S0 o a c bs w2 hB ((HS.out.but HB1.out (by simp)).but hb2 (by simp)) (HP.out w1 HB1.out) HC.out hl)
  have HB2 := Lib.hid (HB1.out.trans hb2 (by simp))
  have HS2 := Lib.hid ((HS.out.but HB1.out (by simp)).but hb2 (by simp))
  have hP1 : w.heap.size ≤ w1.heap.size := HB1.out.size
  have HP2 := Lib.hid (HP.out w1 HB1.out)
  obtain ⟨P, hPP⟩ : ∃ P, P = w1.heap.size := ⟨_, rfl⟩
  rw [← hPP] at HW hP1 HP2 ⊢
  clear hB hb2 hl hPP
  go_wp2_with fail
  refine HW.out.mono ?_
  rintro e w3 ⟨rfl, hB, hb3⟩
  rw [HE.out]
  rw [← HSS.out] at hB
  have HCB : Hid (CB w P o a c bs S w3) := Lib.hid ⟨hB, sees_keep HS2.out hb3 HP2.out, HB2.out.trans hb3 (fun x hx => .inr (by simp at hx; omega))⟩
  have HINV := Lib.hid HWS.out.inv
  have HRE := Lib.hid (wrote_readE HWS.out hon)
  have HRR := Lib.hid (wrote_readRow HWS.out hon)
  have HRD := Lib.hid (Read_c P S o bs.length w3 HINV.out hB)
  clear hB hb3 HW
  go_wp2_with fail
  refine HRD.out.mono ?_
  rintro e w4 ⟨v, rfl, hn, hb4⟩
  rw [HRE.out]
  rw [HRR.out] at hn
  have HN := Lib.hid (newRow_sees hn)
  have HCB4 := Lib.hid (HCB.out.to hb4)
  clear hn hb4 HRD
  go_wp2_with fail
  refine (same _ _ bs bs w4 HCB4.out.sees HN.out (by omega)).mono ?_
  rintro e w5 ⟨rfl, hb5⟩
  rw [show decide (bs = bs) = true from decide_eq_true rfl]
  have HCB5 := Lib.hid (HCB4.out.to hb5)
  clear hb5
  go_wp2_with fail
  go_loopw [11] (fun i wr => ∃ j : Nat, j ≤ bs.length ∧ i = .int .i64 j ∧ CB w P o a c bs S wr) (fun i _ => bs.length - (intOf i).toNat)
  case atStart => exact ⟨0, by omega, rfl, HCB5.out⟩
  case round =>
    obtain ⟨j, hj, rfl, hcb⟩ := hrel
    have HCBJ := Lib.hid hcb
    have hj0 : (0 : Int) ≤ j := by omega
    by_cases hlt : j < bs.length
    · obtain ⟨ad, rfl, hx⟩ := hcb.at hlt
      have hb := byte_at HBY.out hlt
      have h1 := one_at hlt
      obtain ⟨x, hxx⟩ : ∃ x, x = bs.getD j 0 := ⟨_, rfl⟩
      rw [← hxx] at hx hb h1
      have HX := Lib.hid hx
      have hjn : (j : Int) < bs.length := by omega
      have hwo : IntKind.i64.wrap ((o : Int) + j) = (o : Int) + j := by rw [IntKind.wrap_i64]; omega
      have hwo2 : wrap64 ((o : Int) + j) = (o : Int) + j := by rw [wrap64]; omega
      have hwj : wrap64 ((j : Int) + 1) = (j : Int) + 1 := by rw [wrap64]; omega
      have HLE : Hid (loadE S ((o : Int) + j) 1 = 0) := Lib.hid (wrote_one HWS.out hon hlt).1
      have HLV : Hid (loadV S ((o : Int) + j) 1 = ⟨1, x, 0, 0⟩) := Lib.hid (by rw [← h1]; exact (wrote_one HWS.out hon hlt).2)
      have HLD := Lib.hid (Load_c P S ((o : Int) + j) 1 wr HINV.out hcb.blk)
      have HWX : Hid (IntKind.u64.wrap x = x) := Lib.hid (by rw [IntKind.wrap_u64]; omega)
      clear hcb hx hb h1 hxx
      go_wp2_with fail
      refine HLD.out.mono ?_
      rintro e w6 ⟨rfl, hb6⟩
      rw [HLE.out, HLV.out]
      have HB6 := Lib.hid hb6
      have HCB6 := Lib.hid (HCBJ.out.to (hb6.alloc (.cells #[.int .u8 1, .int .u64 x, .int .i64 0, .int .i64 0] 33)))
      clear hb6 HLD
      unfold CV.agg
      go_wp2_with fail
      refine cb16 _ (Lib.hid (al_at _ _)) (Lib.hid (cell_but (HB6.out.alloc _) HX.out (by simp))) (Lib.hid hj0) (Lib.hid hjn) HWX ?_
      intro z72 z73 z74 z75 z76 z77 z78 z79 z80 z81 z82 w7 hb7
      have HCB7 := Lib.hid (HCB6.out.to hb7)
      clear hb7
      go_wp2_with fail
      go_roundw
      case rel => exact ⟨j + 1, by omega, by go_num, HCB7.out⟩
      case measure => simp [intOf]; omega
    · obtain rfl : j = bs.length := by omega
      by_cases h8 : (bs.length : Int) < 8
      · go_wp2_with fail
        go_ret
        exact ⟨rfl, HCBJ.out.but⟩
      · have hw7 : wrap64 ((bs.length : Int) - 7) = (bs.length : Int) - 7 := by rw [wrap64]; omega
        have hp1 : 1 ≤ (bs.length : Int) - 7 := by omega
        have HPK := Lib.hid (pick at_ ((bs.length : Int) - 7) wr hp1 (by omega) HAT.out.1 HAT.out.2)
        obtain ⟨k, hk⟩ : ∃ k : Nat, at_ % ((bs.length : Int) - 7) = k := ⟨(at_ % ((bs.length : Int) - 7)).toNat, by have := Int.emod_nonneg at_ (show (bs.length : Int) - 7 ≠ 0 by omega); omega⟩
        have hk8 : k + 8 ≤ bs.length := by have := Int.emod_lt_of_pos at_ (show (0 : Int) < (bs.length : Int) - 7 by omega); omega
        rw [hk] at HPK
        clear hk hcb
        go_wp2_with fail
        refine HPK.out.mono ?_
        rintro e w6 ⟨rfl, rfl⟩
        clear HPK
        go_wp2_with fail
        go_loopw [15, 16] (fun nn ii wx => ∃ i : Nat, i ≤ 8 ∧ ii = .int .i64 ((i : Int) - 1) ∧ nn = .int .u64 (leV ((bs.drop (k + i)).take (8 - i))) ∧ wx = wr) (fun _ ii _ => (intOf ii + 1).toNat)
        case atStart => exact ⟨8, by omega, rfl, by simp [leV], rfl⟩
        case round =>
          obtain ⟨i, hi, rfl, rfl, rfl⟩ := hrel
          cases i with
          | zero =>
            have HLE := Lib.hid (wrote_eight HWS.out hon hk8).1
            have HLV := Lib.hid (wrote_eight HWS.out hon hk8).2
            have hwo : IntKind.i64.wrap ((o : Int) + k) = (o : Int) + k := by rw [IntKind.wrap_i64]; omega
            have hwo2 : wrap64 ((o : Int) + k) = (o : Int) + k := by rw [wrap64]; omega
            have HLD := Lib.hid (Load_c P S ((o : Int) + k) 8 _ HINV.out HCBJ.out.blk)
            obtain ⟨x, hx⟩ : ∃ x, x = leV ((bs.drop k).take 8) := ⟨_, rfl⟩
            rw [Nat.add_zero, Nat.sub_zero, ← hx]
            rw [← hx] at HLV
            clear hx
            go_wp2_with fail
            refine HLD.out.mono ?_
            rintro e w6 ⟨rfl, hb6⟩
            rw [HLE.out, HLV.out]
            have HCB6 := Lib.hid (HCBJ.out.to (hb6.alloc (.cells #[.int .u8 1, .int .u64 x, .int .i64 0, .int .i64 0] 33)))
            clear hb6 HLD
            unfold CV.agg
            go_wp2_with fail
            refine cb27 _ (Lib.hid (al_at _ _)) ?_
            intro z114 z115 z116 z117 z118 z119 z120 z121 w7 hb7
            have HCB7 := Lib.hid (HCB6.out.to hb7)
            clear hb7
            go_wp2_with fail
            go_ret
            exact ⟨rfl, HCB7.out.but⟩
          | succ i =>
            obtain ⟨ad, rfl, hx⟩ := HCBJ.out.at (show k + i < bs.length by omega)
            have hb := byte_at HBY.out (show k + i < bs.length by omega)
            have hst := leV_step hk8 (show i < 8 by omega)
            have hsm := leV_small (sub_byte HBY.out (k + (i + 1)) (8 - (i + 1))) (by rw [List.length_take]; omega)
            have e1 : ((i + 1 : Nat) : Int) - 1 = i := by omega
            rw [e1]
            obtain ⟨x, hxx⟩ : ∃ x, x = bs.getD (k + i) 0 := ⟨_, rfl⟩
            obtain ⟨m, hm⟩ : ∃ m, m = leV ((bs.drop (k + (i + 1))).take (8 - (i + 1))) := ⟨_, rfl⟩
            rw [← hxx] at hx hb hst
            rw [← hm] at hst hsm ⊢
            have HST := Lib.hid hst
            have hi0 : (0 : Int) ≤ i := by omega
            have hk0 : (0 : Int) ≤ (k : Int) + i := by omega
            have hk9 : (k : Int) + i < bs.length := by omega
            have hwk : wrap64 ((k : Int) + i) = (k : Int) + i := by rw [wrap64]; omega
            have hwi : wrap64 ((i : Int) - 1) = (i : Int) - 1 := by rw [wrap64]; omega
            have hwm : IntKind.u64.wrap (m * 256) = m * 256 := by rw [IntKind.wrap_u64]; omega
            have hwx : IntKind.u64.wrap x = x := by rw [IntKind.wrap_u64]; omega
            have hjn : bits .or .u64 (m * 256) x = m * 256 + x := joinU64 hsm.1 hsm.2 hb.1 hb.2
            have hkn : ((k : Int) + i).toNat = k + i := toNat_two k i
            clear hst hsm hb hxx hm
            go_wp2_with fail
            go_roundw
            case rel => exact ⟨i, by omega, by go_num, by rw [HST.out], trivial⟩
            case measure => simp [intOf]
theorem cellBytes_walk (w : World) (off : Int) (v : Value) (bs : List Int) (at_ : Int) (ho : (Lit.int .i64 off).wf = true) (hs : Sees w v (u8s bs) ∧ ByteL bs) (hl : bs.length ≤ 140737488351232) (hat : (Lit.int .i64 at_).wf = true) :
    Calls Try.prog 7 #[.int .i64 off, v, .int .i64 at_] w fun e w' => e = .returned (.bool true) ∧ Below w.heap.size w w' := by
  obtain ⟨a, c, rfl, hc⟩ : ∃ a c, v = .slice a bs.length c ∧ bs.length ≤ c := by
    rcases hs.1 with ⟨rfl, h0⟩ | ⟨ad, c, rfl, hc, hx⟩
    · obtain rfl : bs = [] := by cases bs with | nil => rfl | cons => cases h0
      exact ⟨none, 0, rfl, Nat.le_refl _⟩
    · rw [u8s_len] at hc
      exact ⟨some ad, c, by rw [u8s_len], hc⟩
  have hgo : Calls Try.prog 7 #[.int .i64 off, .slice a bs.length c, .int .i64 at_] w fun e w' => e = .returned (.bool true) ∧ But [] w w' := by
    by_cases h6 : 600 < bs.length
    · exact cellBytes_no off at_ a c bs w hs.1 hc (.inl h6)
    · by_cases hE : writeE off bs.length = 0
      · obtain ⟨h1, h2⟩ := writeE_zero hE
        obtain ⟨o, rfl⟩ := Int.eq_ofNat_of_zero_le h1
        exact cellBytes_yes o at_ a c bs w hs.1 hs.2 hc (by omega) (wf_i64 hat)
      · exact cellBytes_no off at_ a c bs w hs.1 hc (.inr hE)
  exact hgo.mono fun _ _ ⟨he, hb⟩ => ⟨he, hb.below (Nat.le_refl _) (by simp)⟩
end Go.Proofs.Ytmaeiifhmngllaa.M
