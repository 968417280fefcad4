/-
  The reference's array: New, Value, Set.
-/
import Derived.Test.YtkgoblpddjpcnaaGreatRefAW
namespace Go.Proofs.YtkgoblpddjpcnaaGreat.M
open Go.RowKit Go.Shelf
set_option linter.unusedVariables false
set_option linter.unusedSectionVars false
set_option linter.unusedSimpArgs false
attribute [local go_sem ↓] Go.wp_at_zero Go.wp_at_succ
/-- A row that is laid anew: an append to none. -/
theorem freshA {w0 wA w5 : World} {e : TypeId} {v' : Value} {xs : List Value} (hb0 : But [] w0 wA) (hz : w0.heap.size < wA.heap.size) (hap : Appended wA w5 e (.slice (some ⟨w0.heap.size, 0, none⟩) 0 0) v' [] xs) : ∃ a c, v' = .slice a xs.length c ∧ OwnQ w5 e (.slice a xs.length c) xs ∧ (∀ b, (Value.slice a xs.length c).ownBlock = some b → w0.heap.size ≤ b) ∧ But [] w0 w5 := by
  obtain ⟨hq, hc⟩ := hap
  rw [List.nil_append] at hq
  obtain ⟨a', c', rfl⟩ := hq.form
  refine ⟨a', c', rfl, hq, ?_⟩
  rcases hc with ⟨a2, cap, e1, e2, _, hb⟩ | ⟨hn, hb⟩
  · simp only [Value.slice.injEq] at e1 e2
    obtain ⟨rfl, _, rfl⟩ := e1
    obtain ⟨rfl, _, rfl⟩ := e2
    exact ⟨fun b hb' => by cases hb'; exact Nat.le_refl _, hb0.trans hb (fun x hx => .inr (by simp [Value.ownBlock] at hx; omega))⟩
  · refine ⟨fun b hb' => ?_, hb0.trans hb (by simp)⟩
    rw [hn] at hb'
    cases hb'
    omega
theorem fresh_at (w0 : World) (e : TypeId) : OwnQ (w0.alloc (.cells #[] e)) e (.slice (some ⟨w0.heap.size, 0, none⟩) 0 0) [] := .inr ⟨w0.heap.size, 0, 0, #[], rfl, al_at _ _, Nat.le_refl _, by unfold maxLen; omega, by simp, fun j u h => by simp at h⟩
theorem zeros_rep (n : Nat) : zeros n = List.replicate n (.int .u8 0) := by
  apply List.ext_getElem?
  intro i
  simp only [zeros, madeCells, Array.toList_map, List.getElem?_map, List.getElem?_replicate]
  by_cases h : i < n
  · simp [h, Nat.mod_one]
  · simp [h]
theorem zeros_flat (n m : Nat) : (List.replicate m (zeros n)).flatten = zeros (n * m) := by
  rw [zeros_rep, zeros_rep, List.flatten_replicate_replicate, Nat.mul_comm]
theorem refNewErr (k key val ent E : Int) (w : World) (hE : specE k key val ent = E) (h0 : (E == 0) = false) :
    Calls Tryz.prog 8 #[.agg #[.int .u8 k, .int .i64 key, .int .i64 val, .int .i64 ent]] w fun e w' => e = .returned (.tuple #[.pointer none, .int .i64 E]) ∧ But [] w w' := by
  have hn0 : (E != 0) = true := by simpa using h0
  have HE := Lib.hid hE
  clear hE
  go_enter Tryz.func8, Tryz.ntmps8
  go_wp2_with fail
  refine (calls_val (refSpec k key val ent _) (v' := .int .i64 E) (by rw [HE.out])).mono ?_
  rintro e w1 ⟨rfl, hb⟩
  go_wp2_with fail
  go_ret2
  exact ⟨rfl, ((But.refl _ _).alloc _).trans hb (by simp)⟩
theorem refNewKind (k key val ent : Int) (w : World) (hE : specE k key val ent = 0) (h1 : (k == 1) = false) :
    Calls Tryz.prog 8 #[.agg #[.int .u8 k, .int .i64 key, .int .i64 val, .int .i64 ent]] w fun e w' => e = .returned (.tuple #[.pointer none, .int .i64 9]) ∧ But [] w w' := by
  have h1' : (k != 1) = true := by simpa using h1
  have HE := Lib.hid hE
  have hb1 : But [] w (w.alloc (.cells #[.int .u8 k, .int .i64 key, .int .i64 val, .int .i64 ent] 24)) := (But.refl [] w).alloc _
  have ha := al_at w (.cells #[.int .u8 k, .int .i64 key, .int .i64 val, .int .i64 ent] 24)
  have HB1 := Lib.hid hb1
  have HAA := Lib.hid ha
  clear hE hb1 ha
  go_enter Tryz.func8, Tryz.ntmps8
  go_wp2_with fail
  refine (calls_val (refSpec k key val ent _) (v' := .int .i64 0) (by rw [HE.out])).mono ?_
  rintro e w1 ⟨rfl, hb⟩
  have c0 : w1.cell? ⟨w.heap.size, 0, none⟩ = some (.int .u8 k) := cl_of (hb.heap HAA.out (by simp)) 0
  have HB := Lib.hid hb
  clear hb
  go_wp2_with fail
  go_ret2
  exact ⟨rfl, HB1.out.trans HB.out (by simp)⟩
theorem RefA.made {w1 : World} {ok : Nat → Prop} {n m M : Nat} (hM : M = n * m) (hn : 1 ≤ n ∧ n ≤ 1024) (hm : 1 ≤ m ∧ m ≤ 1024) (hok : ∀ b, w1.heap.size ≤ b → ok b) :
    RefA ((w1.alloc (.cells (madeCells #[.int .u8 0] M) 5)).alloc (.cells #[.int .u8 1, .int .i64 4, .int .i64 n, .int .i64 m, .slice (some ⟨w1.heap.size, 0, none⟩) M M] 61)) ok (w1.heap.size + 1) n (List.replicate m (zeros n)) := by
  refine ⟨hok _ (by omega), ⟨w1.heap.size, ?_, ?_, hok _ (Nat.le_refl _)⟩, fun r hr => ?_, hn, by simp; exact hm.2⟩
  · have h := al_at (w1.alloc (.cells (madeCells #[.int .u8 0] M) 5)) (.cells #[.int .u8 1, .int .i64 4, .int .i64 n, .int .i64 m, .slice (some ⟨w1.heap.size, 0, none⟩) M M] 61)
    rw [size_alloc] at h
    rw [h, hM, List.length_replicate]
  · have h := ((But.refl [] _).alloc (.cells #[.int .u8 1, .int .i64 4, .int .i64 n, .int .i64 m, .slice (some ⟨w1.heap.size, 0, none⟩) M M] 61)).heap (al_at w1 (.cells (madeCells #[.int .u8 0] M) 5)) (by simp)
    rw [h, zeros_flat, ← hM]
    simp [zeros]
  · obtain rfl := List.eq_of_mem_replicate hr
    exact ⟨zeros_bytes n, zeros_len n⟩
set_option maxHeartbeats 1000000 in
theorem refNewArr (n m : Nat) (w : World) (hn : 1 ≤ n ∧ n ≤ 1024) (hm : 1 ≤ m ∧ m ≤ 1024) (hE : specE 1 4 n m = 0) (ok : Nat → Prop) (hok : ∀ b, w.heap.size ≤ b → ok b) :
    Calls Tryz.prog 8 #[.agg #[.int .u8 1, .int .i64 4, .int .i64 n, .int .i64 m]] w fun e w' => ∃ X, e = .returned (.tuple #[.pointer (some ⟨X, 0, none⟩), .int .i64 0]) ∧ RefA w' ok X n (List.replicate m (zeros n)) ∧ But [] w w' := by
  obtain ⟨j0, ki, kz0, kz1, kz2⟩ := info_parts (show (Tryz.prog.info? 5).map (fun i => (i.zero, i.size, i.bytes)) = some (some (.int .u8 0), 1, 1) by kernel_rfl)
  have HE := Lib.hid hE
  have hb1 : But [] w (w.alloc (.cells #[.int .u8 1, .int .i64 4, .int .i64 n, .int .i64 m] 24)) := (But.refl [] w).alloc _
  have ha := al_at w (.cells #[.int .u8 1, .int .i64 4, .int .i64 n, .int .i64 m] 24)
  have HB1 := Lib.hid hb1
  have HAA := Lib.hid ha
  have HOK : Hid (∀ b, w.heap.size ≤ b → ok b) := Lib.hid hok
  obtain ⟨M, hM⟩ : ∃ M : Nat, M = n * m := ⟨_, rfl⟩
  have hMb : M ≤ 1048576 := by rw [hM]; exact Nat.le_trans (Nat.mul_le_mul hn.2 hm.2) (by decide)
  have hnm : (n : Int) * (m : Int) = (M : Int) := by rw [hM]; simp
  have hmk : ∀ w, (Instr.makeSlice 36 (.int .i64 (M : Int)) (.int .i64 (M : Int))).run Tryz.prog w = .ok (.slice (some ⟨w.heap.size, 0, none⟩) M M) (w.alloc (.cells (madeCells #[.int .u8 0] M) 5)) := fun w => by
    have h := run_make (P := Tryz.prog) w 36 5 j0 (.int .u8 0) Tryz.underlying36 ki kz0 .i64 .i64 (M : Int) (M : Int) (by omega) (by omega) (by rw [kz2]; omega) (by omega)
    rw [h, kz1]
    simp only [Int.toNat_natCast, Nat.mul_one]
    rfl
  have wm : IntKind.i64.wrap (M : Int) = M := by rw [IntKind.wrap_i64]; omega
  have HM := Lib.hid hM
  clear hE hb1 ha hok hM ki kz0 kz1 kz2
  go_enter Tryz.func8, Tryz.ntmps8
  go_wp2_with fail
  refine (calls_val (refSpec _ 4 n m _) (v' := .int .i64 0) (by rw [HE.out])).mono ?_
  rintro e w1 ⟨rfl, hb⟩
  have hh := hb.heap HAA.out (by simp)
  have c0 : w1.cell? ⟨w.heap.size, 0, none⟩ = some (.int .u8 1) := cl_of hh 0
  have c1 : w1.cell? ⟨w.heap.size, 1, none⟩ = some (.int .i64 4) := cl_of hh 1
  have c2 : w1.cell? ⟨w.heap.size, 2, none⟩ = some (.int .i64 n) := cl_of hh 2
  have c3 : w1.cell? ⟨w.heap.size, 3, none⟩ = some (.int .i64 m) := cl_of hh 3
  have HB := Lib.hid (HB1.out.trans hb (by simp))
  clear hb hh
  go_wp2_with fail
  go_region_held3 (fun w' => w'.cell? ⟨w.heap.size, 0, none⟩ = some (.int .u8 1) ∧ w'.cell? ⟨w.heap.size, 1, none⟩ = some (.int .i64 4) ∧ w'.cell? ⟨w.heap.size, 2, none⟩ = some (.int .i64 n) ∧ w'.cell? ⟨w.heap.size, 3, none⟩ = some (.int .i64 m)) (go_keep) (fail)
  all_goals
    go_wp2_with fail
    go_ret2
    have HR := RefA.made (w1 := w1) (ok := ok) HM.out hn hm (fun b hb => HOK.out b (by have := HB.out.size; omega))
    first
      | exact ⟨_, rfl, HR, (HB.out.alloc _).alloc _⟩
      | exact ⟨_, rfl, HR.keep ((But.refl [] _).drew) (by simp), ((HB.out.alloc _).alloc _).drew⟩
set_option maxRecDepth 100000 in
set_option maxHeartbeats 2000000 in
theorem refValue_all {w : World} {ok : Nat → Prop} {X val : Nat} {rows : List (List Value)} (h : RefA w ok X val rows) (place : Int) (hpl : -9223372036854775808 ≤ place ∧ place ≤ 9223372036854775807) :
    Calls Tryz.prog 11 #[.pointer (some ⟨X, 0, none⟩), .int .i64 place] w fun e w' => ∃ a c, e = .returned (.tuple #[.slice a (valR rows place).length c, .int .i64 (valE rows.length place)]) ∧ OwnQ w' 5 (.slice a (valR rows place).length c) (valR rows place) ∧ (∀ b, (Value.slice a (valR rows place).length c).ownBlock = some b → w.heap.size ≤ b) ∧ But [] w w' := by
  obtain ⟨j0, ki, kz0, kz1, kz2⟩ := info_parts (show (Tryz.prog.info? 5).map (fun i => (i.zero, i.size, i.bytes)) = some (some (.int .u8 0), 1, 1) by kernel_rfl)
  have H := Lib.hid h
  obtain ⟨hX, ⟨B, h1, h2, h3⟩, h4, h5, h6⟩ := h
  have x2 : w.cell? ⟨X, 2, none⟩ = some (.int .i64 val) := cl_of h1 2
  have x3 : w.cell? ⟨X, 3, none⟩ = some (.int .i64 rows.length) := cl_of h1 3
  have x4 : w.cell? ⟨X, 4, none⟩ = some (.slice (some ⟨B, 0, none⟩) (val * rows.length) (val * rows.length)) := cl_of h1 4
  have HPL := Lib.hid hpl
  by_cases hp : place < 0 ∨ (rows.length : Int) ≤ place
  · have e1 : valR rows place = [] := by simp only [valR]; rw [if_pos hp]
    have e2 : valE rows.length place = 6 := by simp only [valE]; rw [if_pos hp]
    rw [e1, e2]
    clear h1 h2 h3 h4 h5 h6 x2 x4 ki kz0 kz1 kz2 e1 e2 hpl
    by_cases hp0 : place < 0
    · clear hp
      go_enter Tryz.func11, Tryz.ntmps11
      go_wp2_with fail
      go_ret2
      exact ⟨none, 0, rfl, OwnQ.nil _ _, (fun b hb => by cases hb), But.refl _ _⟩
    · have hp1 : (rows.length : Int) ≤ place := by omega
      clear hp
      go_enter Tryz.func11, Tryz.ntmps11
      go_wp2_with fail
      go_ret2
      exact ⟨none, 0, rfl, OwnQ.nil _ _, (fun b hb => by cases hb), But.refl _ _⟩
  · obtain ⟨j, rfl⟩ : ∃ j : Nat, place = (j : Int) := ⟨place.toNat, by omega⟩
    have hjr : j < rows.length := by omega
    obtain ⟨r, hr⟩ : ∃ r, rows[j]? = some r := ⟨_, List.getElem?_eq_getElem hjr⟩
    have e1 : valR rows (j : Int) = r := by
      simp only [valR]
      rw [if_neg hp]
      simp only [Int.toNat_natCast, List.getD, hr, Option.getD_some]
    have e2 : valE rows.length (j : Int) = 0 := by simp only [valE]; rw [if_neg hp]
    have hrl := (h4 r (List.mem_of_getElem? hr)).2
    have hrb := (h4 r (List.mem_of_getElem? hr)).1
    rw [e1, e2]
    have hroom := flat_room (fun r hr => (h4 r hr).2) hr
    obtain ⟨M, hM⟩ : ∃ M, M = val * rows.length := ⟨_, rfl⟩
    obtain ⟨m, hmm⟩ : ∃ m : Nat, m = j * val := ⟨_, rfl⟩
    obtain ⟨m2, hm2⟩ : ∃ m2 : Nat, m2 = m + val := ⟨_, rfl⟩
    have hMb : M ≤ 1048576 := by rw [hM]; exact Nat.le_trans (Nat.mul_le_mul h5.2 h6) (by decide)
    have hMc : rows.length * val = M := by rw [hM, Nat.mul_comm]
    rw [hMc, ← hmm] at hroom
    have hjm : (j : Int) * (val : Int) = (m : Int) := by rw [hmm]; simp
    have hjm2 : ((j : Int) + 1) * (val : Int) = (m2 : Int) := by rw [hm2, hmm, Int.add_mul]; simp
    rw [← hM] at x4
    have wm : IntKind.i64.wrap (m : Int) = m := by rw [IntKind.wrap_i64]; omega
    have wm2 : IntKind.i64.wrap (m2 : Int) = m2 := by rw [IntKind.wrap_i64]; omega
    have wj : IntKind.i64.wrap ((j : Int) + 1) = (j : Int) + 1 := by rw [IntKind.wrap_i64]; omega
    have q1 : (0 : Int) ≤ m := by omega
    have q2 : (m : Int) ≤ m2 := by omega
    have q3 : (m2 : Int) ≤ M := by omega
    have hmm2 : m2 - m = val := by omega
    have hMm : ¬ M = m := by omega
    have hSee : Sees w (.slice (some ⟨B, m, none⟩) (m2 - m) (M - m)) r := .inr ⟨⟨B, m, none⟩, M - m, by rw [hmm2, hrl], by rw [hrl]; omega, fun i u hu => by
      rw [add_at, hmm]
      unfold World.cell?
      rw [h2]
      simpa using flat_row (fun r hr => (h4 r hr).2) hr hu⟩
    have HS : Hid (Src Tryz.prog j0.size 36 (.slice (some ⟨B, m, none⟩) (m2 - m) (M - m)) r.length r (w.alloc (.cells #[] 5)).drew) := Lib.hid (by
      have h := src_sees (P := Tryz.prog) Tryz.underlying36 kz1 (hSee.but (((But.refl [] w).alloc (.cells #[] 5)).drew) (by simp)) (fun v hv => by obtain ⟨n, rfl⟩ := hrb v hv; rfl)
      exact h)
    have HQ0 : Hid (OwnQ (w.alloc (.cells #[] 5)).drew 5 (.slice (some ⟨w.heap.size, 0, none⟩) 0 0) []) := Lib.hid ((fresh_at w 5).but ((But.refl [] _).drew) (by simp))
    have HK : Hid (∀ L w', But L w w' → L = [] → w'.cell? ⟨X, 2, none⟩ = some (.int .i64 val) ∧ w'.cell? ⟨X, 4, none⟩ = some (.slice (some ⟨B, 0, none⟩) M M)) := Lib.hid fun L w' hb he => by subst he; exact ⟨cell_but hb x2 (by simp), cell_but hb x4 (by simp)⟩
    have KEY := Lib.hid (fun (v' : Value) (w5 : World) (hap : Appended (w.alloc (.cells #[] 5)).drew w5 5 (.slice (some ⟨w.heap.size, 0, none⟩) 0 0) v' [] r) => freshA (w0 := w) (((But.refl [] w).alloc _).drew) (by show w.heap.size < (w.alloc _).heap.size; rw [size_alloc]; omega) hap)
    have HRL := Lib.hid hrl
    have hrl2 : r.length ≤ 1024 := by omega
    clear h1 h2 h3 h4 hr hM hmm hm2 hMc e1 e2 hrl hrb hSee hmm2 hpl hroom
    go_enter Tryz.func11, Tryz.ntmps11
    go_wp2_with fail
    go_region_held3 (fun w' => w'.cell? ⟨X, 2, none⟩ = some (.int .i64 val) ∧ w'.cell? ⟨X, 4, none⟩ = some (.slice (some ⟨B, 0, none⟩) M M)) (first | exact HKW | exact (HK.out [] _ (((But.refl [] w).alloc _).drew) rfl) | exact (HK.out [] _ ((But.refl [] w).drew) rfl) | exact (HK.out [] _ (((But.refl [] w).drew).alloc _) rfl) | go_keep) (first
      | (refine step_append_row (by rfl) _ _ 36 (by rfl) 5 j0 (.int .u8 0) 1 Tryz.underlying36 ki kz0 kz1 kz2 rfl _ [] (by rfl) HQ0.out r _ (by rfl) HS.out (by unfold maxLen; have h0 : ([] : List Value).length = 0 := rfl; omega) (by have h0 : ([] : List Value).length = 0 := rfl; omega) ?_; intro v' w5 hap; obtain ⟨a5, c5, rfl, ho5, hn5, hb5⟩ := KEY.out _ _ hap; have hbb : But [] w w5 := hb5; have HKW := HK.out _ _ hbb rfl; have HO5 := Lib.hid ho5; have HN5 := Lib.hid hn5; have HB5 := Lib.hid hbb; clear hap ho5 hn5 hb5 hbb))
    all_goals
      go_wp2_with fail
      go_ret2
      exact ⟨_, _, rfl, HO5.out, HN5.out, HB5.out⟩
set_option maxRecDepth 100000 in
set_option maxHeartbeats 2000000 in
theorem refSet_all {w : World} {ok : Nat → Prop} {X val : Nat} {rows : List (List Value)} (h : RefA w ok X val rows) (place off : Int) (t : Value) (bs : List Int) (hpl : -9223372036854775808 ≤ place ∧ place ≤ 9223372036854775807) (hof : -9223372036854775808 ≤ off ∧ off ≤ 9223372036854775807) (ht : Sees w t (u8s bs)) (hbl : bs.length ≤ 140737488351232) :
    Calls Tryz.prog 28 #[.pointer (some ⟨X, 0, none⟩), .int .i64 place, .int .i64 off, t] w fun e w' => e = .returned (.int .i64 (setE rows.length val place off bs.length)) ∧ RefA w' ok X val (setR val rows place off bs) ∧ ∃ L, (∀ x ∈ L, ok x) ∧ But L w w' := by
  have H := Lib.hid h
  obtain ⟨a1, c1, rfl⟩ := form_of ht
  obtain ⟨hX, ⟨B, h1, h2, h3⟩, h4, h5, h6⟩ := h
  have x2 : w.cell? ⟨X, 2, none⟩ = some (.int .i64 val) := cl_of h1 2
  have x3 : w.cell? ⟨X, 3, none⟩ = some (.int .i64 rows.length) := cl_of h1 3
  have x4 : w.cell? ⟨X, 4, none⟩ = some (.slice (some ⟨B, 0, none⟩) (val * rows.length) (val * rows.length)) := cl_of h1 4
  have hkeep : setE rows.length val place off bs.length ≠ 0 → setR val rows place off bs = rows := fun h0 => by
    unfold setR
    rw [if_neg h0]
  have HPL := Lib.hid hpl
  have HOF := Lib.hid hof
  rw [u8s_len]
  by_cases hp : place < 0 ∨ (rows.length : Int) ≤ place
  · have e : setE rows.length val place off bs.length = 6 := by simp only [setE]; rw [if_pos hp]
    rw [e, hkeep (by rw [e]; decide)]
    clear h1 h2 h3 h4 h5 h6 x2 x4 e hpl hof hkeep ht
    by_cases hp0 : place < 0
    · clear hp
      go_enter Tryz.func28, Tryz.ntmps28
      go_wp2_with fail
      go_ret
      exact ⟨rfl, H.out, [], by simp, But.refl _ _⟩
    · have hp1 : (rows.length : Int) ≤ place := by omega
      clear hp
      go_enter Tryz.func28, Tryz.ntmps28
      go_wp2_with fail
      go_ret
      exact ⟨rfl, H.out, [], by simp, But.refl _ _⟩
  · obtain ⟨j, rfl⟩ : ∃ j : Nat, place = (j : Int) := ⟨place.toNat, by omega⟩
    have hjr : j < rows.length := by omega
    by_cases hf : off < 0 ∨ (val : Int) < off ∨ (val : Int) - off < bs.length
    · have e : setE rows.length val j off bs.length = 32 := by simp only [setE]; rw [if_neg hp, if_pos hf]
      rw [e, hkeep (by rw [e]; decide)]
      clear h1 h2 h3 h4 e hpl hof hkeep ht x4
      by_cases f0 : off < 0
      · clear hf
        go_enter Tryz.func28, Tryz.ntmps28
        go_wp2_with fail
        go_ret
        exact ⟨rfl, H.out, [], by simp, But.refl _ _⟩
      · by_cases f1 : (val : Int) < off
        · clear hf
          go_enter Tryz.func28, Tryz.ntmps28
          go_wp2_with fail
          go_ret
          exact ⟨rfl, H.out, [], by simp, But.refl _ _⟩
        · have f2 : (val : Int) - off < bs.length := by omega
          clear hf
          go_enter Tryz.func28, Tryz.ntmps28
          go_wp2_with fail
          go_ret
          exact ⟨rfl, H.out, [], by simp, But.refl _ _⟩
    · have e : setE rows.length val j off bs.length = 0 := by simp only [setE]; rw [if_neg hp, if_neg hf]
      obtain ⟨k, rfl⟩ : ∃ k : Nat, off = (k : Int) := ⟨off.toNat, by omega⟩
      obtain ⟨r, hr⟩ : ∃ r, rows[j]? = some r := ⟨_, List.getElem?_eq_getElem hjr⟩
      have e2 : setR val rows j k bs = rows.set j (splice r k (u8s bs)) := by
        simp only [setR]
        rw [if_pos e]
        simp only [Int.toNat_natCast, List.getD, hr, Option.getD_some]
      rw [e, e2]
      have hrl := (h4 r (List.mem_of_getElem? hr)).2
      have hroom := flat_room (fun r hr => (h4 r hr).2) hr
      have hfl := flat_len (fun r hr => (h4 r hr).2)
      obtain ⟨M, hM⟩ : ∃ M, M = val * rows.length := ⟨_, rfl⟩
      obtain ⟨m, hmm⟩ : ∃ m : Nat, m = j * val := ⟨_, rfl⟩
      obtain ⟨p, hpk⟩ : ∃ p : Nat, p = m + k := ⟨_, rfl⟩
      have hMb : M ≤ 1048576 := by rw [hM]; exact Nat.le_trans (Nat.mul_le_mul h5.2 h6) (by decide)
      have hMc : rows.length * val = M := by rw [hM, Nat.mul_comm]
      rw [hMc, ← hmm] at hroom
      rw [hMc] at hfl
      have hjm : (j : Int) * (val : Int) = (m : Int) := by rw [hmm]; simp
      have hpp : (m : Int) + (k : Int) = (p : Int) := by rw [hpk]; simp
      rw [← hM] at x4
      have wm : IntKind.i64.wrap (m : Int) = m := by rw [IntKind.wrap_i64]; omega
      have wp : IntKind.i64.wrap (p : Int) = p := by rw [IntKind.wrap_i64]; omega
      have q1 : (0 : Int) ≤ p := by omega
      have q3 : (p : Int) ≤ M := by omega
      have hkv : k + bs.length ≤ val := by omega
      have g1 : ¬ (k : Int) < 0 := by omega
      have g2 : ¬ (val : Int) < k := by omega
      have g3 : ¬ (val : Int) - k < bs.length := by omega
      have hb1 : But [] w w.drew := (But.refl [] w).drew
      have hT : Sees w (.slice a1 bs.length c1) (u8s bs) := by rw [u8s_len] at ht; exact ht
      have HG : Hid (w.drew.heap[B]? = some (.cells rows.flatten.toArray 5 (0, 0))) := Lib.hid (hb1.heap h2 (by simp))
      have HLN : Hid ((u8s bs).length = Nat.min bs.length (M - p)) := Lib.hid (by rw [u8s_len]; exact (Nat.min_eq_left (by omega)).symm)
      have HPOS : Hid (0 < (u8s bs).length → ∃ ad, a1 = some ad ∧ ∀ (j : Nat) (v : Value), (u8s bs)[j]? = some v → w.drew.cell? (ad.add j) = some v) := Lib.hid fun h => sees_src (hT.but hb1 (by simp)) h
      have HFIT : Hid (p + (u8s bs).length ≤ rows.flatten.length) := Lib.hid (by rw [u8s_len, hfl]; omega)
      have H1C : Hid (∀ v ∈ u8s bs, v.oneCell' = true) := Lib.hid fun v hv => by obtain ⟨n, rfl⟩ := u8s_bytes bs v hv; rfl
      have KEYC : Hid (∀ (w5 : World), w5.heap[B]? = some (.cells (splice rows.flatten p (u8s bs)).toArray 5 (0, 0)) → But [B] w.drew w5 → RefA w5 ok X val (rows.set j (splice r k (u8s bs))) ∧ But [B] w w5) := Lib.hid fun w5 hg hb5 => by
        have h := (RefA.write (H.out.keep hb1 (by simp)) (hb1.heap h1 (by simp)) hr (off := k) (cs := u8s bs) (by rw [u8s_len]; omega) (u8s_bytes bs) (by rw [← hmm, ← hpk]; exact hg) hb5).2
        exact ⟨h, (hb1.mono (by simp)).trans hb5 (fun x hx => .inl hx)⟩
      have HNE : Hid (0 < (u8s bs).length → ¬ M = p) := Lib.hid fun h => by rw [u8s_len] at h; omega
      have HX3 := Lib.hid h3
      clear h1 h2 h3 h4 e e2 hpl hof hkeep ht hr hrl hroom hfl hM hmm hpk hMc hb1 hT hf hp
      go_enter Tryz.func28, Tryz.ntmps28
      go_upto_region 5 with fail
      refine wp_region_tail9 15 (by kernel_rfl) (by kernel_rfl) ?_
      simp only [List.take_succ_cons, List.take_zero, List.drop_succ_cons, List.drop_zero]
      repeat still_step
      refine wpStill_nil ?_
      refine wpList_copy_but rfl (.tmp 56) (.tmp 57) 36 36 rfl 5 Tryz.underlying36 (by kernel_rfl) (if M = p then some ⟨B, 0, none⟩ else some ⟨B, p, none⟩) a1 (M - p) (M - p) bs.length c1 rfl rfl B p rows.flatten 5 HG.out (u8s bs) HLN.out (fun h => ⟨if_neg (HNE.out h), HPOS.out h⟩) HFIT.out H1C.out ?_
      intro w5 hg5 hb5
      have HKC := Lib.hid (KEYC.out w5 hg5 hb5)
      clear hg5 hb5
      go_wp2_with fail
      all_goals
        go_ret
        exact ⟨rfl, HKC.out.1, [B], by simpa using HX3.out, HKC.out.2⟩
end Go.Proofs.YtkgoblpddjpcnaaGreat.M
