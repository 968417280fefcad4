/-
  cell: a place's group, the bits of bytes, bytes put into a group.
-/
import Derived.Test.YtmaeiifhmngllaaCellSp
import Derived.Test.YtmaeiifhmngllaaCopyB
import Derived.Deep.DeepCutAuto
import Derived.Deep.CutBlock
import Derived.Test.YtmaeiifhmngllaaProg
import Derived.WalkKit
import Derived.ProofKit
import Derived.StillTailTactics
import Derived.Deep.QuietTactic
import Derived.BigQuiet
import Derived.Deep.DrawnRows
namespace Go.Proofs.Ytmaeiifhmngllaa.M
open Go.RowKit
set_option linter.unusedVariables false
set_option linter.unusedSectionVars false
set_option linter.unusedSimpArgs false
theorem rowAt (P : Nat) (place : Nat) (w : World) (hp : place < 512) : Calls Try.prog 27 #[.pointer (some ⟨P, 0, none⟩), .int .i64 (place : Int)] w fun e w' => e = .returned (.pointer (some ⟨P, place / 8 * 13, none⟩)) ∧ w = w' := by
  have h0 : (0 : Int) ≤ place := by omega
  have h1 : (place : Int) / 8 < 64 := by omega
  have h2 : (0 : Int) ≤ (place : Int) / 8 := by omega
  go_enter Try.func27, Try.ntmps27
  go_wp2_with fail
  go_ret
  exact ⟨rfl, rfl⟩
theorem mask_c (f m : Nat) (w : World) (hf : f ≤ 7) (hm : m ≤ 8) : Calls Try.prog 40 #[.int .i64 (f : Int), .int .i64 (m : Int)] w fun e w' => e = .returned (.int .u8 (maskI f m)) ∧ w = w' := by
  have h0 : (0 : Int) ≤ f := by omega
  have h1 : (0 : Int) ≤ m := by omega
  have h2 : (f : Int) ≤ 7 := by omega
  have h3 : (m : Int) ≤ 8 := by omega
  go_enter Try.func40, Try.ntmps40
  go_wp2_with fail
  go_ret
  exact ⟨rfl, rfl⟩
theorem wp_region_tail9 {P : Program} {id : Nat} {Q : Exit → Act → World → Prop} {a : Act} {w : World} {l : List Oper} (n : Nat) (hm : P.follows .mixedOrders = true) (hB : Region.lexTailB .any l.toArray n = true)
    (h : wpStill P l.toArray w.drew (fun a' => wpList P l.toArray Q (l.drop n) a' w.drew) (l.take n) a) : (Code.region id l.toArray true).wp P Q a w := wp_region_still_tail n hm hB h
theorem mask_still (f m : Nat) (w : World) (hf : f ≤ 7) (hm : m ≤ 8) : Calls Try.prog 40 #[.int .i64 (f : Int), .int .i64 (m : Int)] w fun e w' => e = .returned (.int .u8 (maskI f m)) ∧ w' = w :=
  (mask_c f m w hf hm).mono fun _ _ ⟨h1, h2⟩ => ⟨h1, h2.symm⟩
set_option maxRecDepth 100000 in
set_option maxHeartbeats 4000000 in
theorem put_c (P k f : Nat) (S : Stk) (made : Bool) (a : Option Addr) (c : Nat) (bs : List Int) (w : World) (hk : k < 64) (hf : f ≤ 7) (hfb : f + bs.length ≤ 8) (hB : Blk w P 57 833 (S.val made)) (hs : Sees w (.slice a bs.length c) (u8s bs)) (hP : ∀ ad, a = some ad → ad.block ≠ P) :
    Calls Try.prog 43 #[.pointer (some ⟨P, k * 13, none⟩), .int .i64 (f : Int), .slice a bs.length c] w fun e w' => e = .returned (.tuple #[]) ∧ Blk w' P 57 833 ((putG S k f bs).val made) ∧ But [P] w w' := by
  have hf0 : (0 : Int) ≤ f := by omega
  have hf8 : (f : Int) ≤ 8 := by omega
  have d0 := hB.cell' (i := k * 13) (by omega) (show _ = Value.int .u8 (S.whole k).k from val_whole S made hk (by decide : 0 < 4))
  have HB := Lib.hid hB
  have HS := Lib.hid hs
  have HP := Lib.hid hP
  have hz := Lib.hid (clear_val S made hk)
  clear hB hs hP
  go_enter Try.func43, Try.ntmps43
  go_upto_if 11 with fail
  go_cut [] (fun wx => Blk wx P 57 833 ((clearG S k).val made) ∧ But [P] w wx)
  case first =>
    by_cases hw : (S.whole k).k = 0
    · have hw1 : ((S.whole k).k == 0) = true := by simpa using hw
      have HC : Hid (clearG S k = S) := Lib.hid (clear_id S hw)
      clear hw
      go_wp2_with fail
      go_meet
      rw [HC.out]
      exact ⟨HB.out, But.refl _ _⟩
    · have hw1 : ((S.whole k).k == 0) = false := by simpa using hw
      have HC := Lib.hid (Blk.congr (((((((((((((HB.out.set (k * 13) (.int .u8 0)).set (k * 13 + 1) (.int .u64 0)).set (k * 13 + 2) (.int .i64 0)).set (k * 13 + 3) (.int .i64 0)).set (k * 13 + 4) (.int .u8 0)).set (k * 13 + 5) (.int .u8 0)).set (k * 13 + 6) (.int .u8 0)).set (k * 13 + 7) (.int .u8 0)).set (k * 13 + 8) (.int .u8 0)).set (k * 13 + 9) (.int .u8 0)).set (k * 13 + 10) (.int .u8 0)).set (k * 13 + 11) (.int .u8 0)).set (k * 13 + 12) (.int .u8 0)) (hz.out hw))
      have e0 := HB.out.cell (i := k * 13) (by omega)
      have e1 := HB.out.cell (i := k * 13 + 1) (by omega)
      have e2 := HB.out.cell (i := k * 13 + 2) (by omega)
      have e3 := HB.out.cell (i := k * 13 + 3) (by omega)
      have e4 := HB.out.cell (i := k * 13 + 4) (by omega)
      have e5 := HB.out.cell (i := k * 13 + 5) (by omega)
      have e6 := HB.out.cell (i := k * 13 + 6) (by omega)
      have e7 := HB.out.cell (i := k * 13 + 7) (by omega)
      have e8 := HB.out.cell (i := k * 13 + 8) (by omega)
      have e9 := HB.out.cell (i := k * 13 + 9) (by omega)
      have e10 := HB.out.cell (i := k * 13 + 10) (by omega)
      have e11 := HB.out.cell (i := k * 13 + 11) (by omega)
      have e12 := HB.out.cell (i := k * 13 + 12) (by omega)
      have f0 := HB.out.frozen (k * 13)
      have f1 := HB.out.frozen (k * 13 + 1)
      have f2 := HB.out.frozen (k * 13 + 2)
      have f3 := HB.out.frozen (k * 13 + 3)
      have f4 := HB.out.frozen (k * 13 + 4)
      have f5 := HB.out.frozen (k * 13 + 5)
      have f6 := HB.out.frozen (k * 13 + 6)
      have f7 := HB.out.frozen (k * 13 + 7)
      have f8 := HB.out.frozen (k * 13 + 8)
      have f9 := HB.out.frozen (k * 13 + 9)
      have f10 := HB.out.frozen (k * 13 + 10)
      have f11 := HB.out.frozen (k * 13 + 11)
      have f12 := HB.out.frozen (k * 13 + 12)
      clear hw d0
      go_wp2_with fail
      go_meet
      exact ⟨HC.out, ((((((((((((((But.refl [P] _).setCell (.inl (by simp)) _).setCell (.inl (by simp)) _).setCell (.inl (by simp)) _).setCell (.inl (by simp)) _).setCell (.inl (by simp)) _).setCell (.inl (by simp)) _).setCell (.inl (by simp)) _).setCell (.inl (by simp)) _).setCell (.inl (by simp)) _).setCell (.inl (by simp)) _).setCell (.inl (by simp)) _).setCell (.inl (by simp)) _).setCell (.inl (by simp)) _)⟩
  case rest =>
    obtain ⟨hB1, hb1⟩ := hcut
    obtain ⟨cur, hg, hl, hcf⟩ := hB1.list
    have HB1 := Lib.hid hb1
    have HG := Lib.hid hg
    have HFIT : Hid (k * 13 + 4 + f + (u8s bs).length ≤ cur.length) := Lib.hid (by rw [u8s_len, hl]; omega)
    have HN : Hid ((u8s bs).length = Nat.min bs.length (8 - f)) := Lib.hid (by rw [u8s_len]; exact (Nat.min_eq_left (by omega)).symm)
    have hsa := HS.out.but hb1 (fun b hb hm => by
      simp only [List.mem_singleton] at hm
      subst hm
      cases a with
      | none => cases hb
      | some ad => cases hb; exact HP.out ad rfl rfl)
    have HPOS : Hid (0 < (u8s bs).length → (some (⟨P, k * 13 + 4 + f, none⟩ : Addr)) = some ⟨P, k * 13 + 4 + f, none⟩ ∧ ∃ ad, a = some ad ∧ ∀ j v, (u8s bs)[j]? = some v → wc.cell? (ad.add j) = some v) := Lib.hid fun h0 => ⟨rfl, sees_src hsa h0⟩
    have HONE : Hid (∀ v ∈ u8s bs, v.oneCell' = true) := Lib.hid fun v hv => by
      simp only [u8s, List.mem_map] at hv
      obtain ⟨n, _, rfl⟩ := hv
      rfl
    have HK : Hid (∀ w', w'.heap[P]? = some (.cells (splice cur (k * 13 + 4 + f) (u8s bs)).toArray 57 (0, 0)) → Blk w' P 57 833 (updL ((clearG S k).val made) (k * 13 + (4 + f)) (u8s bs))) := Lib.hid fun w' h => by
      rw [Nat.add_assoc (k * 13)] at h
      exact blk_splice hl hcf (by rw [u8s_len]; omega) h
    have hm8 : bs.length ≤ 8 := by omega
    have hu := u8s_len bs
    clear hB1 hb1 hg hl hcf hsa hz d0 HB
    go_wp2_with ((with_reducible refine (show wpList _ _ _ (⟨some 21, _, _, _, _, _⟩ :: _) _ _ from ?_)); refine wpList_copy_but rfl (.tmp 19) (.tmp 20) 37 37 rfl 5 Try.underlying37 (by kernel_rfl) (some ⟨P, k * 13 + 4 + f, none⟩) a (8 - f) _ bs.length c rfl rfl P (k * 13 + 4 + f) cur 57 HG.out (u8s bs) HN.out HPOS.out HFIT.out HONE.out ?_; intro w2 hw2 hb2; have HB2 := Lib.hid (HK.out w2 hw2); have HBT := Lib.hid (HB1.out.trans hb2 (by simp)); clear hw2 hb2)
    have d12 : w2.cell? ⟨P, k * 13 + 12, none⟩ = some (.int .u8 ((clearG S k).set k)) := HB2.out.cell' (by omega) (by rw [updL_out (by rw [u8s_len]; omega), val_set _ _ hk])
    have f12 := HB2.out.frozen (k * 13 + 12)
    refine wp_region_tail9 11 (by kernel_rfl) (by kernel_rfl) ?_
    simp only [List.take_succ_cons, List.take_zero, List.drop_succ_cons, List.drop_zero]
    repeat still_step
    still_call (mask_still f bs.length _ hf hm8)
    repeat still_step
    refine wpStill_nil ?_
    go_wp2_with fail
    have HE : Hid (Blk (w2.setCell ⟨P, k * 13 + 12, none⟩ (.int .u8 (bits .or .u8 ((clearG S k).set k) (maskI f bs.length)))).drew P 57 833 ((putG S k f bs).val made)) := Lib.hid (((HB2.out.set (k * 13 + 12) _).but ((But.refl [] _).drew) (by simp)).congr (put_val S made hk hfb))
    go_end0
    exact ⟨rfl, HE.out, (HBT.out.setCell (.inl (by simp)) _).drew⟩
end Go.Proofs.Ytmaeiifhmngllaa.M
