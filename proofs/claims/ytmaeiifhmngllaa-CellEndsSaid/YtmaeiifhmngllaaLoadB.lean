/-
  cell: Load, whole, wrong, nobody's; its contract.
-/
import Derived.Test.YtmaeiifhmngllaaLoad
namespace Go.Proofs.Ytmaeiifhmngllaa.M
open Go.RowKit Go.Shelf
set_option linter.unusedVariables false
set_option linter.unusedSectionVars false
set_option linter.unusedSimpArgs false
attribute [local go_sem] Oper.semAt_some
theorem cell_agg (c : CV) : c = ⟨c.k, c.w, c.r, c.o⟩ := rfl
set_option maxRecDepth 100000 in
set_option maxHeartbeats 4000000 in
theorem load_whole (P o n : Nat) (S : Stk) (w : World) (hn : sizeB n = true) (hn8 : n ≤ 8) (hon : o + n ≤ 512) (hB : Blk w P 57 833 (S.val true)) (g1 : ((n : Int) == 8) = true) (g2 : (o : Int) % 8 = 0) (g3 : (S.whole (o / 8)).k ≠ 0) :
    CallsIn Fence.wide 3 Try.prog 12 #[.pointer (some ⟨P, 0, none⟩), .int .i64 (o : Int), .int .i64 (n : Int)] w fun e w' => e = .returned (.tuple #[(S.whole (o / 8)).agg, .int .i64 0]) ∧ But [] w w' := by
  have HB := Lib.hid hB
  have HN := Lib.hid hn
  have HZC := Lib.hid (show checkE o n true = 0 from by unfold checkE; rw [if_pos rfl, if_pos (by omega)])
  have ho512 : o < 512 := by
    unfold sizeB at hn
    have h := of_decide_eq_true hn
    omega
  have HO := Lib.hid ho512
  have hq : ∀ q, q < 4 → S.val true (o / 8 * 13 + q) = (S.whole (o / 8)).at q := fun q hq => val_whole _ _ (by omega) hq
  obtain ⟨C, hC⟩ : ∃ C, C = S.whole (o / 8) := ⟨_, rfl⟩
  rw [← hC] at hq g3 ⊢
  clear hC
  obtain ⟨k, wd, rg, of_⟩ := C
  simp only at g3
  have HQ := Lib.hid hq
  clear hB hon hn ho512 hq
  refine callsIn_of_wp_marks Try.func12 rfl trivial ?_ rfl
  simp only [Try.ntmps12, List.size_toArray, List.length_cons, List.length_nil, Nat.reduceAdd, Nat.reduceSub, Array.replicate_succ, Array.replicate_zero, List.push_toArray, List.append_toArray, List.nil_append, List.cons_append]
  gi_wp2
  refine ⟨trivial, ?_⟩
  refine (callsIn_wide.2 (sized_c _ _)).mono ?_
  rintro e w1 ⟨rfl, hb1⟩
  rw [HN.out]
  have HB1 : Hid (Blk w1 P 57 833 (S.val true)) := Lib.hid (((HB.out.but ((But.refl [] w).alloc _) (by simp))).but hb1 (by simp))
  have HBT1 := Lib.hid hb1
  clear hb1
  gi_wp2
  refine ⟨trivial, ?_⟩
  refine (callsIn_wide.2 (check_c P S o n true w1 HB1.out (fun _ => by omega))).mono ?_
  rintro e w2 ⟨rfl, rfl⟩
  rw [HZC.out]
  gi_wp2
  refine ⟨trivial, ?_⟩
  refine (callsIn_wide.2 (rowAt P o w1 HO.out)).mono ?_
  rintro e w2 ⟨rfl, rfl⟩
  have b0 : w1.cell? ⟨P, o / 8 * 13, none⟩ = some (.int .u8 k) := HB1.out.cell' (i := o / 8 * 13 + 0) (by have := HO.out; omega) (HQ.out 0 (by omega))
  have b1 : w1.cell? ⟨P, o / 8 * 13 + 1, none⟩ = some (.int .u64 wd) := HB1.out.cell' (by have := HO.out; omega) (HQ.out 1 (by omega))
  have b2 : w1.cell? ⟨P, o / 8 * 13 + 2, none⟩ = some (.int .i64 rg) := HB1.out.cell' (by have := HO.out; omega) (HQ.out 2 (by omega))
  have b3 : w1.cell? ⟨P, o / 8 * 13 + 3, none⟩ = some (.int .i64 of_) := HB1.out.cell' (by have := HO.out; omega) (HQ.out 3 (by omega))
  have r := HBT1.out.heap (al_at _ _) (by simp)
  have hf : ∀ i, w1.frozen? ⟨w.heap.size, i, none⟩ = false := fun i => by (unfold World.frozen?; rw [r]; simp)
  have f0 := hf 0
  have f1 := hf 1
  have f2 := hf 2
  have f3 := hf 3
  have d0 := cl_of r 0
  have d1 := cl_of r 1
  have d2 := cl_of r 2
  have d3 := cl_of r 3
  simp only [List.getElem?_toArray, List.getElem?_cons_zero, List.getElem?_cons_succ] at d0 d1 d2 d3
  have HR := Lib.hid r
  clear r hf
  gi_wp2
  have h4 := set4 (a' := .int .u8 k) (b' := .int .u64 wd) (c' := .int .i64 rg) (d' := .int .i64 of_) HR.out
  have hbb := but4 (W := w1) (R := w.heap.size) (.int .u8 k) (.int .u64 wd) (.int .i64 rg) (.int .i64 of_)
  refine ⟨_, res_load h4 rfl rfl, ?_⟩
  exact ⟨rfl, (((But.refl [] w).alloc _).trans HBT1.out (by simp)).trans hbb (fun y hy => .inr (by simp at hy; omega))⟩
/-- Where check tells no: nothing, and what it told. -/
theorem load_badK (p : Value) (off n E : Int) (w : World) (hC : ∀ w1, But [] w w1 → Calls Try.prog 25 #[p, .int .i64 off, .int .i64 n, .bool (sizeB n)] w1 fun e w' => e = .returned (.int .i64 E) ∧ w1 = w') (hE : (E == 0) = false) :
    CallsIn Fence.wide 3 Try.prog 12 #[p, .int .i64 off, .int .i64 n] w fun e w' => e = .returned (.tuple #[c0.agg, .int .i64 E]) ∧ But [] w w' := by
  have HC := Lib.hid hC
  clear hC
  refine callsIn_of_wp_marks Try.func12 rfl trivial ?_ rfl
  simp only [Try.ntmps12, List.size_toArray, List.length_cons, List.length_nil, Nat.reduceAdd, Nat.reduceSub, Array.replicate_succ, Array.replicate_zero, List.push_toArray, List.append_toArray, List.nil_append, List.cons_append]
  gi_wp2
  refine ⟨trivial, ?_⟩
  refine (callsIn_wide.2 (sized_c _ _)).mono ?_
  rintro e w1 ⟨rfl, hb1⟩
  have HBT1 := Lib.hid hb1
  have HC1 := Lib.hid (HC.out w1 (((But.refl [] w).alloc _).trans hb1 (by simp)))
  clear hb1
  obtain ⟨sb, hsb⟩ : ∃ b, b = sizeB n := ⟨_, rfl⟩
  rw [← hsb] at HC1 ⊢
  clear hsb HC
  gi_wp2
  refine ⟨trivial, ?_⟩
  refine (callsIn_wide.2 HC1.out).mono ?_
  rintro e w2 ⟨rfl, rfl⟩
  have r := HBT1.out.heap (al_at _ _) (by simp)
  have hf : ∀ i, w1.frozen? ⟨w.heap.size, i, none⟩ = false := fun i => by (unfold World.frozen?; rw [r]; simp)
  have f0 := hf 0
  have f1 := hf 1
  have f2 := hf 2
  have f3 := hf 3
  have d0 := cl_of r 0
  have d1 := cl_of r 1
  have d2 := cl_of r 2
  have d3 := cl_of r 3
  simp only [List.getElem?_toArray, List.getElem?_cons_zero, List.getElem?_cons_succ] at d0 d1 d2 d3
  have HR := Lib.hid r
  clear r hf
  gi_wp2
  have h4 := set4 (a' := .int .u8 0) (b' := .int .u64 0) (c' := .int .i64 0) (d' := .int .i64 0) HR.out
  have hbb := but4 (W := w1) (R := w.heap.size) (.int .u8 0) (.int .u64 0) (.int .i64 0) (.int .i64 0)
  refine ⟨_, res_load h4 rfl rfl, ?_⟩
  exact ⟨rfl, (((But.refl [] w).alloc _).trans HBT1.out (by simp)).trans hbb (fun y hy => .inr (by simp at hy; omega))⟩
def wholeAt (S : Stk) (off n : Int) : Bool := decide (n = 8 ∧ off % 8 = 0 ∧ (S.whole (off / 8).toNat).k ≠ 0)
def loadE (S : Stk) (off n : Int) : Int := if checkE off n (sizeB n) ≠ 0 then checkE off n (sizeB n) else if wholeAt S off n = true ∨ bitsOn S off.toNat n.toNat = true then 0 else 30
def loadV (S : Stk) (off n : Int) : CV := if loadE S off n ≠ 0 then c0 else if wholeAt S off n = true then S.whole (off / 8).toNat else ⟨1, leV (rowB S off.toNat n.toNat), 0, 0⟩
theorem size_cases {n : Int} (h : sizeB n = true) : 0 ≤ n ∧ n ≤ 8 := by
  unfold sizeB at h
  have := of_decide_eq_true h
  omega
theorem Load_c (P : Nat) (S : Stk) (off n : Int) (w : World) (hI : Inv S) (hB : Blk w P 57 833 (S.val true)) :
    Calls Try.prog 12 #[.pointer (some ⟨P, 0, none⟩), .int .i64 off, .int .i64 n] w fun e w' => e = .returned (.tuple #[(loadV S off n).agg, .int .i64 (loadE S off n)]) ∧ But [] w w' := by
  have hsz : sizeB n = true → 0 ≤ n ∧ n ≤ 512 := fun h => by have := size_cases h; omega
  by_cases hE : checkE off n (sizeB n) = 0
  · have hs : sizeB n = true := by
      cases h : sizeB n with
      | true => rfl
      | false => rw [h] at hE; cases hE
    have hr : 0 ≤ off ∧ off ≤ 512 - n := by
      rw [hs] at hE
      unfold checkE at hE
      rw [if_pos rfl] at hE
      by_cases h : 0 ≤ off ∧ off ≤ 512 - n
      · exact h
      · rw [if_neg h] at hE; cases hE
    obtain ⟨h0, h8⟩ := size_cases hs
    obtain ⟨o, rfl⟩ := Int.eq_ofNat_of_zero_le hr.1
    obtain ⟨m, rfl⟩ := Int.eq_ofNat_of_zero_le h0
    have hm8 : m ≤ 8 := by omega
    have hon : o + m ≤ 512 := by omega
    have ho8 : ((o : Int) / 8).toNat = o / 8 := by omega
    by_cases hw : wholeAt S o m = true
    · have h := of_decide_eq_true hw
      rw [ho8] at h
      have hl : loadE S o m = 0 := by unfold loadE; rw [if_neg (by simp [hE]), if_pos (.inl hw)]
      refine (callsIn_wide.1 (load_whole P o m S w hs hm8 hon hB (by simp [h.1]) h.2.1 h.2.2)).mono ?_
      rintro e w' ⟨rfl, hb⟩
      refine ⟨?_, hb⟩
      unfold loadV
      rw [hl, if_neg (by decide), if_pos hw, ho8]
    · have hwf : ¬ (m = 8 ∧ (o : Int) % 8 = 0 ∧ (S.whole (o / 8)).k ≠ 0) := fun h => hw (decide_eq_true ⟨by omega, h.2.1, by rw [ho8]; exact h.2.2⟩)
      have hgo : CallsIn Fence.wide 3 Try.prog 12 #[.pointer (some ⟨P, 0, none⟩), .int .i64 (o : Int), .int .i64 (m : Int)] w fun e w' => (bitsOn S o m = true ∧ e = .returned (.tuple #[(CV.mk 1 (leV (rowB S o m)) 0 0).agg, .int .i64 0]) ∧ But [] w w') ∨ (bitsOn S o m = false ∧ e = .returned (.tuple #[c0.agg, .int .i64 30]) ∧ But [] w w') := by
        by_cases g1 : m = 8
        · by_cases g2 : (o : Int) % 8 = 0
          · by_cases g3 : (S.whole (o / 8)).k = 0
            · exact load_bytes2 P o m S w hI hs hm8 hon hB (by simp [g1]) g2 g3
            · exact absurd ⟨g1, g2, g3⟩ hwf
          · exact load_bytes1 P o m S w hI hs hm8 hon hB (by simp [g1]) g2
        · exact load_bytes0 P o m S w hI hs hm8 hon hB (by omega)
      refine (callsIn_wide.1 hgo).mono ?_
      rintro e w' (⟨hbt, rfl, hb⟩ | ⟨hbt, rfl, hb⟩)
      · have hl : loadE S o m = 0 := by unfold loadE; rw [if_neg (by simp [hE]), if_pos (.inr hbt)]
        refine ⟨?_, hb⟩
        unfold loadV
        rw [hl, if_neg (by decide), if_neg hw]
        rfl
      · have hl : loadE S o m = 30 := by unfold loadE; rw [if_neg (by simp [hE]), if_neg (fun h => h.elim hw (fun h => by rw [show (o : Int).toNat = o from rfl, show (m : Int).toNat = m from rfl, hbt] at h; cases h))]
        refine ⟨?_, hb⟩
        unfold loadV
        rw [hl, if_pos (by decide)]
  · have hl : loadE S off n = checkE off n (sizeB n) := by unfold loadE; rw [if_pos hE]
    refine (callsIn_wide.1 (load_badK _ off n _ w (fun w1 hb => check_c P S off n (sizeB n) w1 (hB.but hb (by simp)) hsz) (by simpa using hE))).mono ?_
    rintro e w' ⟨rfl, hb⟩
    refine ⟨?_, hb⟩
    unfold loadV
    rw [hl, if_pos hE]
theorem Load_nil (off n : Int) (w : World) : Calls Try.prog 12 #[.pointer none, .int .i64 off, .int .i64 n] w fun e w' => e = .returned (.tuple #[c0.agg, .int .i64 1]) ∧ But [] w w' :=
  callsIn_wide.1 (load_badK _ off n 1 w (fun w1 _ => check_nil off n _ w1) rfl)
theorem Load_un (P : Nat) (S : Stk) (off n : Int) (w : World) (hB : Blk w P 57 833 (S.val false)) : Calls Try.prog 12 #[.pointer (some ⟨P, 0, none⟩), .int .i64 off, .int .i64 n] w fun e w' => e = .returned (.tuple #[c0.agg, .int .i64 1]) ∧ But [] w w' :=
  callsIn_wide.1 (load_badK _ off n 1 w (fun w1 hb => check_un P S off n _ w1 (hB.but hb (by simp))) rfl)
end Go.Proofs.Ytmaeiifhmngllaa.M
