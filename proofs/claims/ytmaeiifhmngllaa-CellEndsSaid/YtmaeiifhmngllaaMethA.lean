/-
  cell: Write, Read.
-/
import Derived.Test.YtmaeiifhmngllaaCellPw
import Derived.Test.YtmaeiifhmngllaaCheck
namespace Go.Proofs.Ytmaeiifhmngllaa.M
open Go.RowKit
set_option linter.unusedVariables false
set_option linter.unusedSectionVars false
set_option linter.unusedSimpArgs false
def writeE (off : Int) (n : Nat) : Int := checkE off n (decide (n ≤ 512))
def writeS (S : Stk) (off : Int) (bs : List Int) : Stk := if writeE off bs.length = 0 then wrL S off.toNat bs (List.range (cntP off.toNat bs.length)) else S
set_option maxHeartbeats 1000000 in
theorem Write_c (P : Nat) (S : Stk) (off : Int) (a : Option Addr) (c : Nat) (bs : List Int) (w : World) (hB : Blk w P 57 833 (S.val true)) (hs : Sees w (.slice a bs.length c) (u8s bs)) (hP : ∀ ad, a = some ad → bs ≠ [] → ad.block ≠ P) (hc : bs.length ≤ c) (hl : bs.length ≤ 1000000000000) :
    Calls Try.prog 19 #[.pointer (some ⟨P, 0, none⟩), .int .i64 off, .slice a bs.length c] w fun e w' => e = .returned (.int .i64 (writeE off bs.length)) ∧ Blk w' P 57 833 ((writeS S off bs).val true) ∧ But [P] w w' := by
  have hl0 : (0 : Int) ≤ bs.length := by omega
  by_cases h1 : bs.length ≤ 512
  · have h1' : (bs.length : Int) ≤ 512 := by omega
    have HC := Lib.hid (check_c P S off bs.length true w hB (fun _ => by omega))
    by_cases h2 : 0 ≤ off ∧ off ≤ 512 - (bs.length : Int)
    · obtain ⟨o, rfl⟩ := Int.eq_ofNat_of_zero_le h2.1
      have HE : Hid (checkE o bs.length true = 0) := Lib.hid (by unfold checkE; rw [if_pos rfl, if_pos h2])
      have hwe : writeE o bs.length = 0 := by unfold writeE; rw [decide_eq_true h1]; exact HE.out
      have HWE := Lib.hid hwe
      have HWS : Hid (writeS S o bs = wrL S o bs (List.range (cntP o bs.length))) := Lib.hid (by unfold writeS; rw [if_pos hwe]; rfl)
      have HWR := Lib.hid (write_c P o S true a c bs w (by omega) hB hs hP hc)
      clear hB hs hP hc hwe h1 h2
      go_enter Try.func19, Try.ntmps19
      go_wp2_with fail
      refine HC.out.mono ?_
      rintro e w1 ⟨rfl, rfl⟩
      rw [HE.out]
      go_wp2_with fail
      refine HWR.out.mono ?_
      rintro e w2 ⟨rfl, hb2, hbt⟩
      have HB2 := Lib.hid hb2
      have HBT := Lib.hid hbt
      clear hb2 hbt
      go_wp2_with fail
      go_ret
      exact ⟨by rw [HWE.out]; rfl, by rw [HWS.out]; exact HB2.out, HBT.out⟩
    · have HE : Hid (checkE off bs.length true = 32) := Lib.hid (by unfold checkE; rw [if_pos rfl, if_neg h2])
      have hwe : writeE off bs.length = 32 := by unfold writeE; rw [decide_eq_true h1]; exact HE.out
      have HWE := Lib.hid hwe
      have HWS : Hid (writeS S off bs = S) := Lib.hid (by unfold writeS; rw [if_neg (by rw [hwe]; decide)])
      have HB := Lib.hid hB
      clear hB hs hP hc hwe h1 h2
      go_enter Try.func19, Try.ntmps19
      go_wp2_with fail
      refine HC.out.mono ?_
      rintro e w1 ⟨rfl, rfl⟩
      rw [HE.out]
      go_wp2_with fail
      go_ret
      exact ⟨by rw [HWE.out]; rfl, by rw [HWS.out]; exact HB.out, But.refl _ _⟩
  · have hd : decide ((bs.length : Int) ≤ 512) = false := decide_eq_false (by omega)
    have HC := Lib.hid (check_c P S off bs.length (decide ((bs.length : Int) ≤ 512)) w hB (fun h => by rw [hd] at h; cases h))
    have HE : Hid (checkE off bs.length (decide ((bs.length : Int) ≤ 512)) = 2) := Lib.hid (by rw [hd]; rfl)
    have hwe : writeE off bs.length = 2 := by unfold writeE; rw [decide_eq_false h1]; rfl
    have HWE := Lib.hid hwe
    have HWS : Hid (writeS S off bs = S) := Lib.hid (by unfold writeS; rw [if_neg (by rw [hwe]; decide)])
    have HB := Lib.hid hB
    clear hB hs hP hc hwe h1 hd hl
    go_enter Try.func19, Try.ntmps19
    go_wp2_with fail
    refine HC.out.mono ?_
    rintro e w1 ⟨rfl, rfl⟩
    rw [HE.out]
    go_wp2_with fail
    go_ret
    exact ⟨by rw [HWE.out]; rfl, by rw [HWS.out]; exact HB.out, But.refl _ _⟩
def readMay (n : Int) : Bool := decide (0 ≤ n ∧ n ≤ 512)
def readE (S : Stk) (off n : Int) : Int := if checkE off n (readMay n) ≠ 0 then checkE off n (readMay n) else if bitsOn S off.toNat n.toNat then 0 else 30
def readRow (S : Stk) (off n : Int) : List Int := if readE S off n = 0 then rowB S off.toNat n.toNat else []
/-- A row of bytes that was made since. -/
def NewRow (w w' : World) (v : Value) (bs : List Int) : Prop := ∃ a c, v = .slice a bs.length c ∧ w'.ownsRow w.heap.size 5 1 (.slice a bs.length c) bs.length (u8s bs)
theorem newRow_nil (w w' : World) : NewRow w w' (.slice none 0 0) [] := ⟨none, 0, rfl, by simp [u8s], .inl ⟨rfl, rfl⟩⟩
set_option maxHeartbeats 1000000 in
theorem Read_c (P : Nat) (S : Stk) (off n : Int) (w : World) (hI : Inv S) (hB : Blk w P 57 833 (S.val true)) :
    Calls Try.prog 14 #[.pointer (some ⟨P, 0, none⟩), .int .i64 off, .int .i64 n] w fun e w' => ∃ v, e = .returned (.tuple #[v, .int .i64 (readE S off n)]) ∧ NewRow w w' v (readRow S off n) ∧ But [] w w' := by
  by_cases h1 : 0 ≤ n ∧ n ≤ 512
  · have hm : readMay n = true := decide_eq_true h1
    have HC := Lib.hid (check_c P S off n true w hB (fun _ => h1))
    obtain ⟨h10, h15⟩ := id h1
    by_cases h2 : 0 ≤ off ∧ off ≤ 512 - n
    · obtain ⟨o, rfl⟩ := Int.eq_ofNat_of_zero_le h2.1
      obtain ⟨m, rfl⟩ := Int.eq_ofNat_of_zero_le h1.1
      have he : checkE o m true = 0 := by unfold checkE; rw [if_pos rfl, if_pos h2]
      have HE := Lib.hid he
      have hon : o + m ≤ 512 := by omega
      have HR := Lib.hid (read_c P o m S true w hon hB)
      have HK : Hid (∀ e w', ReadPost S o m w e w' → ∃ v, e = .returned (.tuple #[v, .int .i64 (readE S o m)]) ∧ NewRow w w' v (readRow S o m) ∧ But [] w w') := Lib.hid fun e w' h => by
        rcases h with ⟨hok, a, c, rfl, ho, hb⟩ | ⟨⟨j, hj, hno⟩, rfl, hb⟩
        · have hon2 : bitsOn S o m = true := bitsOn_iff.2 ((ok_all hI hon).1 hok)
          have hr : readE S o m = 0 := by unfold readE; rw [hm, he, if_neg (by decide)]; exact if_pos hon2
          rw [row_all] at ho ⊢
          refine ⟨_, by rw [hr], ⟨a, c, ?_, ?_⟩, hb⟩
          · unfold readRow; rw [if_pos hr]; rfl
          · unfold readRow; rw [if_pos hr]; exact ho
        · have hon2 : ¬ (bitsOn S o m = true) := fun h => hno ((ok_all hI hon).2 (bitsOn_iff.1 h) j hj)
          have hr : readE S o m = 30 := by unfold readE; rw [hm, he, if_neg (by decide)]; exact if_neg hon2
          refine ⟨_, by rw [hr], ?_, hb⟩
          unfold readRow
          rw [if_neg (by rw [hr]; decide)]
          exact newRow_nil _ _
      have h10' : (0 : Int) ≤ m := by omega
      have h15' : (m : Int) ≤ 512 := by omega
      clear hB h1 h2 hm he h10 h15
      go_enter Try.func14, Try.ntmps14
      go_wp2_with fail
      refine HC.out.mono ?_
      rintro e w1 ⟨rfl, rfl⟩
      rw [HE.out]
      go_wp2_with fail
      refine HR.out.mono ?_
      intro e w2 hp
      obtain ⟨v, rfl, hn, hb⟩ := HK.out e w2 hp
      have HN := Lib.hid hn
      have HBT := Lib.hid hb
      clear hn hb hp
      go_wp2_with fail
      go_ret2
      exact ⟨_, rfl, HN.out, HBT.out⟩
    · have HE : Hid (checkE off n true = 32) := Lib.hid (by unfold checkE; rw [if_pos rfl, if_neg h2])
      have hr : readE S off n = 32 := by unfold readE; rw [hm, HE.out]; rfl
      have HR := Lib.hid hr
      have HN : Hid (readRow S off n = []) := Lib.hid (by unfold readRow; rw [if_neg (by rw [hr]; decide)])
      clear hB h1 h2 hm hr
      go_enter Try.func14, Try.ntmps14
      go_wp2_with fail
      refine HC.out.mono ?_
      rintro e w1 ⟨rfl, rfl⟩
      rw [HE.out]
      go_wp2_with fail
      go_ret2
      exact ⟨_, by rw [HR.out]; rfl, by rw [HN.out]; exact newRow_nil _ _, But.refl _ _⟩
  · have hm : readMay n = false := decide_eq_false h1
    have HE : Hid (checkE off n false = 2) := Lib.hid rfl
    have hr : readE S off n = 2 := by unfold readE; rw [hm, HE.out]; rfl
    have HR := Lib.hid hr
    have HN : Hid (readRow S off n = []) := Lib.hid (by unfold readRow; rw [if_neg (by rw [hr]; decide)])
    by_cases h0 : 0 ≤ n
    · have hd : decide (n ≤ 512) = false := decide_eq_false (by omega)
      have HC := Lib.hid (check_c P S off n (decide (n ≤ 512)) w hB (fun h => by rw [hd] at h; cases h))
      have HE : Hid (checkE off n (decide (n ≤ 512)) = 2) := Lib.hid (by rw [hd]; rfl)
      clear h1 hB hm hr hd
      go_enter Try.func14, Try.ntmps14
      go_wp2_with fail
      refine HC.out.mono ?_
      rintro e w1 ⟨rfl, rfl⟩
      rw [HE.out]
      go_wp2_with fail
      go_ret2
      exact ⟨_, by rw [HR.out]; rfl, by rw [HN.out]; exact newRow_nil _ _, But.refl _ _⟩
    · have hd : decide (0 ≤ n) = false := decide_eq_false h0
      have HC := Lib.hid (check_c P S off n false w hB (fun h => by cases h))
      clear h1 hB hm hr h0
      go_enter Try.func14, Try.ntmps14
      go_wp2_with fail
      refine HC.out.mono ?_
      rintro e w1 ⟨rfl, rfl⟩
      rw [HE.out]
      go_wp2_with fail
      go_ret2
      exact ⟨_, by rw [HR.out]; rfl, by rw [HN.out]; exact newRow_nil _ _, But.refl _ _⟩
end Go.Proofs.Ytmaeiifhmngllaa.M
