/-
  trie's reference: New.
-/
import Derived.Test.YtpoinhfkgnkedaaTrNew
import Derived.Test.YtpoinhfkgnkedaaRefSpec
import Derived.Test.YtpoinhfkgnkedaaGD
import Derived.Deep.RegionLaw
namespace Go.Proofs.Ytpoinhfkgnkedaa.M
open Go.RowKit Go.Shelf
set_option linter.unusedVariables false
set_option linter.unusedSectionVars false
set_option linter.unusedSimpArgs false
attribute [local go_sem ↓] Go.wp_at_zero Go.wp_at_succ
theorem zeros_bytes (n : Nat) : ∀ u ∈ zeros n, ∃ n : Int, u = .int .u8 n := by
  intro u hu
  simp only [zeros, madeCells, Array.toList_map, List.mem_map] at hu
  obtain ⟨i, _, rfl⟩ := hu
  exact ⟨0, by simp [Nat.mod_one]⟩
theorem own_addr (a : Option Addr) (n c n' c' : Nat) : (Value.slice a n c).ownBlock = (Value.slice a n' c').ownBlock := by cases a <;> rfl
/-- An array that is being made. -/
structure NewR (K N : Nat) (W wr : World) (A n : Nat) (a : Option Addr) (c : Nat) (vals : List Value) : Prop where
  hA : W.heap.size ≤ A
  at' : wr.heap[A]? = some (.cells #[.int .u8 4, .int .i64 K, .int .i64 n, .int .i64 N, .slice none 0 0, .slice a vals.length c] 87)
  own : OwnQ wr 26 (.slice a vals.length c) vals
  low : ∀ b, (Value.slice a vals.length c).ownBlock = some b → W.heap.size ≤ b
  each : ∀ (i : Nat) (v : Value), vals[i]? = some v → OwnQ wr 5 v (zeros n) ∧ ∀ b, v.ownBlock = some b → W.heap.size ≤ b
  apart : ∀ (i j : Nat) (u v : Value) (b : Nat), vals[i]? = some u → vals[j]? = some v → u.ownBlock = some b → v.ownBlock = some b → i = j
  but : But [] W wr
theorem newR_step {K N : Nat} {W wr w7 : World} {A n : Nat} {a : Option Addr} {c : Nat} {vals : List Value} {v' : Value} (h : NewR K N W wr A n a c vals) (hn : n ≤ 1024) (hn1 : 1 ≤ n)
    (hap : Appended ((wr.alloc (.cells (madeCells #[.int .u8 0] n) 5)).alloc (.cells #[.slice (some ⟨wr.heap.size, 0, none⟩) n n] 26)).drew w7 26 (.slice a vals.length c) v' vals [.slice (some ⟨wr.heap.size, 0, none⟩) n n]) :
    ∃ a7 c7, v' = .slice a7 (vals.length + 1) c7 ∧ w7.frozen? ⟨A, 5, none⟩ = false ∧ (∃ u, w7.cell? ⟨A, 5, none⟩ = some u) ∧ ∃ vals', vals'.length = vals.length + 1 ∧ NewR K N W (w7.setCell ⟨A, 5, none⟩ (.slice a7 (vals.length + 1) c7)) A n a7 c7 vals' := by
  obtain ⟨hq, hc⟩ := hap
  obtain ⟨a7, c7, e⟩ := hq.form
  rw [List.length_append, List.length_singleton] at e
  subst e
  have hb0 : But [] wr ((wr.alloc (.cells (madeCells #[.int .u8 0] n) 5)).alloc (.cells #[.slice (some ⟨wr.heap.size, 0, none⟩) n n] 26)).drew := (((But.refl [] wr).alloc _).alloc _).drew
  have hrow0 : OwnQ ((wr.alloc (.cells (madeCells #[.int .u8 0] n) 5)).alloc (.cells #[.slice (some ⟨wr.heap.size, 0, none⟩) n n] 26)).drew 5 (.slice (some ⟨wr.heap.size, 0, none⟩) n n) (zeros n) := by
    have hg : ((wr.alloc (.cells (madeCells #[.int .u8 0] n) 5)).alloc (.cells #[.slice (some ⟨wr.heap.size, 0, none⟩) n n] 26)).drew.heap[wr.heap.size]? = some (.cells (madeCells #[.int .u8 0] n) 5) := al_keep (al_at _ _) _
    refine .inr ⟨wr.heap.size, 0, n, _, by rw [zeros_len], hg, by rw [zeros_len]; exact Nat.le_refl _, by unfold maxLen; omega, by simp [madeCells], fun j u hj => by rw [Nat.zero_add]; simpa [zeros] using hj⟩
  have hb7 : But (Value.slice a vals.length c).ownBlock.toList wr w7 := by
    rcases hc with ⟨_, _, _, _, _, hb⟩ | ⟨_, hb⟩
    · exact (hb0.mono (by simp)).trans hb (fun x h => .inl h)
    · exact (hb0.trans hb (by simp)).mono (by simp)
  have hlow7 : ∀ b, (Value.slice a7 (vals.length + 1) c7).ownBlock = some b → W.heap.size ≤ b := fun b hb => by
    rcases hc with ⟨a2, cap, e1, e2, _, _⟩ | ⟨hnew, _⟩
    · simp only [Value.slice.injEq] at e1 e2
      obtain ⟨rfl, _, rfl⟩ := e1
      obtain ⟨rfl, _, rfl⟩ := e2
      exact h.low b ((own_addr _ _ _ _ _).trans hb)
    · rw [hnew] at hb
      cases hb
      exact Nat.le_trans h.but.size hb0.size
  have hAn : A ∉ (Value.slice a vals.length c).ownBlock.toList := fun hm => by
    obtain ⟨cur, hg⟩ := h.own.tag A (by simpa using hm)
    rw [h.at'] at hg
    simp only [Option.some.injEq, Obj.cells.injEq] at hg
    exact absurd hg.2.1 (by decide)
  have hA7 := hb7.heap h.at' hAn
  have hs : But [A] w7 (w7.setCell ⟨A, 5, none⟩ (.slice a7 (vals.length + 1) c7)) := (But.refl _ _).setCell (.inl (by simp)) _
  have hne : ∀ {e : TypeId} {v : Value} {xs : List Value}, OwnQ w7 e v xs → e ≠ 87 → ∀ b, v.ownBlock = some b → b ∉ [A] := fun hq he b hb hm => by
    simp only [List.mem_singleton] at hm
    subst hm
    obtain ⟨cur, hg⟩ := hq.tag _ hb
    rw [hA7] at hg
    simp only [Option.some.injEq, Obj.cells.injEq] at hg
    exact he hg.2.1.symm
  have hoff : ∀ {v : Value} {xs : List Value}, OwnQ wr 5 v xs → ∀ b, v.ownBlock = some b → b ∉ (Value.slice a vals.length c).ownBlock.toList := fun ho b hb hm => ho.ne h.own (by decide) hb (by simpa using hm)
  have hrow7 : OwnQ w7 5 (.slice (some ⟨wr.heap.size, 0, none⟩) n n) (zeros n) := by
    rcases hc with ⟨_, _, _, _, _, hb⟩ | ⟨_, hb⟩
    · exact hrow0.but hb (fun b hb' hm => hrow0.ne (h.own.but hb0 (by simp)) (by decide) hb' (by simpa using hm))
    · exact hrow0.but hb (by simp)
  have last : ∀ {i : Nat} {u : Value}, (vals ++ [Value.slice (some ⟨wr.heap.size, 0, none⟩) n n])[i]? = some u → vals[i]? = some u ∨ (i = vals.length ∧ u = .slice (some ⟨wr.heap.size, 0, none⟩) n n) := fun {i u} hu => by
    by_cases hi : i < vals.length
    · rw [List.getElem?_append_left hi] at hu; exact .inl hu
    · rw [List.getElem?_append_right (by omega)] at hu
      cases hii : i - vals.length with
      | zero => rw [hii] at hu; simp at hu; exact .inr ⟨by omega, hu.symm⟩
      | succ m => rw [hii] at hu; simp at hu
  have hold : ∀ {i : Nat} {u : Value} {b : Nat}, vals[i]? = some u → u.ownBlock = some b → b < wr.heap.size := fun hu hb => (h.each _ _ hu).1.lt hb
  have hl : (vals ++ [Value.slice (some ⟨wr.heap.size, 0, none⟩) n n]).length = vals.length + 1 := by rw [List.length_append]; rfl
  refine ⟨a7, c7, rfl, by unfold World.frozen?; rw [hA7]; simp, ⟨_, cl_of hA7 5⟩, vals ++ [.slice (some ⟨wr.heap.size, 0, none⟩) n n], hl, h.hA, ?_, ?_, ?_, fun i v hv => ?_, fun i j u v b hu hv hbu hbv => ?_, ?_⟩
  · rw [hl]; simp [World.setCell, Array.getElem?_modify, hA7]
  · rw [hl]; exact hq.but hs (hne hq (by decide))
  · rw [hl]; exact hlow7
  · rcases last hv with hv | ⟨_, rfl⟩
    · obtain ⟨q1, q2⟩ := h.each i v hv
      exact ⟨(q1.but hb7 (hoff q1)).but hs (hne (q1.but hb7 (hoff q1)) (by decide)), q2⟩
    · exact ⟨hrow7.but hs (hne hrow7 (by decide)), fun b hb => by cases hb; exact h.but.size⟩
  · rcases last hu with hu | ⟨e1, rfl⟩
    · rcases last hv with hv | ⟨e2, rfl⟩
      · exact h.apart i j u v b hu hv hbu hbv
      · have h9 := hold hu hbu
        cases hbv
        exact absurd h9 (Nat.lt_irrefl _)
    · rcases last hv with hv | ⟨e2, rfl⟩
      · have h9 := hold hv hbv
        cases hbu
        exact absurd h9 (Nat.lt_irrefl _)
      · omega
  · exact (h.but.trans hb7 (fun x hx => .inr (h.low x (by simpa using hx)))).trans hs (fun x hx => .inr (by simp only [List.mem_singleton] at hx; subst hx; exact h.hA))
theorem NewR.low_w {K N : Nat} {W W1 wr : World} {A n : Nat} {a : Option Addr} {c : Nat} {vals : List Value} (h : NewR K N W1 wr A n a c vals) (hb : But [] W W1) : NewR K N W wr A n a c vals :=
  ⟨Nat.le_trans hb.size h.hA, h.at', h.own, fun b x => Nat.le_trans hb.size (h.low b x), fun i v hv => ⟨(h.each i v hv).1, fun b x => Nat.le_trans hb.size ((h.each i v hv).2 b x)⟩, h.apart, hb.trans h.but (by simp)⟩
theorem refNewErr (k key val ent E : Int) (w : World) (hE : specE k key val ent = E) (h0 : (E == 0) = false) :
    Calls Try.prog 20 #[.agg #[.int .u8 k, .int .i64 key, .int .i64 val, .int .i64 ent]] w fun e w' => e = .returned (.tuple #[.pointer none, .int .i64 E]) ∧ But [] w w' := by
  have hn0 : (E != 0) = true := by simpa using h0
  have HE := Lib.hid hE
  clear hE
  go_enter Try.func20, Try.ntmps20
  go_wp2_with fail
  refine (calls_val (refSpec k key val ent _) (v' := .int .i64 E) (by rw [HE.out])).mono ?_
  rintro e w1 ⟨rfl, hb⟩
  go_wp2_with fail
  go_ret2
  exact ⟨rfl, ((But.refl _ _).alloc _).trans hb (by simp)⟩
theorem refNewKind (k key val ent : Int) (w : World) (hE : specE k key val ent = 0) (h3 : (k == 4) = false) :
    Calls Try.prog 20 #[.agg #[.int .u8 k, .int .i64 key, .int .i64 val, .int .i64 ent]] w fun e w' => e = .returned (.tuple #[.pointer none, .int .i64 9]) ∧ But [] w w' := by
  have h3' : (k != 4) = true := by simpa using h3
  have HE := Lib.hid hE
  have hb1 : But [] w (w.alloc (.cells #[.int .u8 k, .int .i64 key, .int .i64 val, .int .i64 ent] 24)) := (But.refl [] w).alloc _
  have ha := al_at w (.cells #[.int .u8 k, .int .i64 key, .int .i64 val, .int .i64 ent] 24)
  have HB1 := Lib.hid hb1
  have HAA := Lib.hid ha
  clear hE hb1 ha
  go_enter Try.func20, Try.ntmps20
  go_wp2_with fail
  refine (calls_val (refSpec k key val ent _) (v' := .int .i64 0) (by rw [HE.out])).mono ?_
  rintro e w1 ⟨rfl, hb⟩
  have c0 : w1.cell? ⟨w.heap.size, 0, none⟩ = some (.int .u8 k) := cl_of (hb.heap HAA.out (by simp)) 0
  have HB := Lib.hid hb
  clear hb
  go_wp2_with fail
  go_ret2
  exact ⟨rfl, HB1.out.trans HB.out (by simp)⟩
set_option maxRecDepth 100000 in
set_option maxHeartbeats 4000000 in
theorem refNewL (K n N : Nat) (w : World) (hE : specE 4 K n N = 0) :
    Calls Try.prog 20 #[.agg #[.int .u8 4, .int .i64 K, .int .i64 n, .int .i64 N]] w fun e w' => ∃ X a c vals, e = .returned (.tuple #[.pointer (some ⟨X, 0, none⟩), .int .i64 0]) ∧ NewR K N w w' X n a c vals ∧ vals.length = N := by
  obtain ⟨hK, hn', hm'⟩ := specE_trie hE
  have hn : 1 ≤ n ∧ n ≤ 1024 := by omega
  have hm : 1 ≤ N ∧ N ≤ 1024 := by omega
  clear hn' hm'
  obtain ⟨i0, hi, hz0, hz1, hz2⟩ := info_parts (show (Try.prog.info? 26).map (fun i => (i.zero, i.size, i.bytes)) = some (some (.slice none 0 0), 1, 24) by kernel_rfl)
  obtain ⟨j0, ki, kz0, kz1, kz2⟩ := info_parts (show (Try.prog.info? 5).map (fun i => (i.zero, i.size, i.bytes)) = some (some (.int .u8 0), 1, 1) by kernel_rfl)
  have HE := Lib.hid hE
  have hmk : ∀ w, (Instr.makeSlice 26 (.int .i64 (n : Int)) (.int .i64 (n : Int))).run Try.prog w = .ok (.slice (some ⟨w.heap.size, 0, none⟩) n n) (w.alloc (.cells (madeCells #[.int .u8 0] n) 5)) := fun w => by
    have h := run_make (P := Try.prog) w 26 5 j0 (.int .u8 0) Try.underlying26 ki kz0 .i64 .i64 (n : Int) (n : Int) (by omega) (by omega) (by rw [kz2]; omega) (by omega)
    rw [h, kz1]
    simp only [Int.toNat_natCast, Nat.mul_one]
    rfl
  have hb1 : But [] w (w.alloc (.cells #[.int .u8 4, .int .i64 K, .int .i64 n, .int .i64 N] 24)) := (But.refl [] w).alloc _
  have ha := al_at w (.cells #[.int .u8 4, .int .i64 K, .int .i64 n, .int .i64 N] 24)
  have HB1 := Lib.hid hb1
  have HBX := Lib.hid ha
  clear hE hb1 ha hK
  go_enter Try.func20, Try.ntmps20
  go_wp2_with fail
  refine (calls_val (refSpec 4 K n N _) (v' := .int .i64 0) (by rw [HE.out])).mono ?_
  rintro e w1 ⟨rfl, hb⟩
  have hbx := hb.heap HBX.out (by simp)
  have d0 : w1.cell? ⟨w.heap.size, 0, none⟩ = some (.int .u8 4) := cl_of hbx 0
  have d1 : w1.cell? ⟨w.heap.size, 1, none⟩ = some (.int .i64 K) := cl_of hbx 1
  have d2 : w1.cell? ⟨w.heap.size, 2, none⟩ = some (.int .i64 n) := cl_of hbx 2
  have d3 : w1.cell? ⟨w.heap.size, 3, none⟩ = some (.int .i64 N) := cl_of hbx 3
  have HW1 := Lib.hid hbx
  have HB := Lib.hid (HB1.out.trans hb (by simp))
  clear hb hbx
  have HN0 : Hid (NewR K N w1 (w1.alloc (.cells #[.int .u8 4, .int .i64 K, .int .i64 n, .int .i64 N, .slice none 0 0, .slice none 0 0] 87)) w1.heap.size n none 0 []) := Lib.hid ⟨Nat.le_refl _, al_at _ _, .inl ⟨rfl, rfl⟩, (fun b hb => by cases hb), (fun i v hv => by simp at hv), (fun i j u v b hu => by simp at hu), (But.refl [] w1).alloc _⟩
  go_wp2_with fail
  go_loopw [6] (fun i wr => ∃ k a c vals, k ≤ N ∧ i = .int .i64 k ∧ NewR K N w1 wr w1.heap.size n a c vals ∧ vals.length = k) (fun i _ => N - (intOf i).toNat)
  case atStart => exact ⟨0, _, _, _, Nat.zero_le _, rfl, HN0.out, rfl⟩
  case round =>
    obtain ⟨k, a, c, vals, hk, rfl, hN, hvl⟩ := hrel
    have HN := Lib.hid hN
    have HVL := Lib.hid hvl
    have hvl2 : vals.length ≤ 1024 := by omega
    have e2 : wr.cell? ⟨w.heap.size, 2, none⟩ = some (.int .i64 n) := cl_of (hN.but.heap HW1.out (by simp)) 2
    have e3 : wr.cell? ⟨w.heap.size, 3, none⟩ = some (.int .i64 N) := cl_of (hN.but.heap HW1.out (by simp)) 3
    have e0 : wr.cell? ⟨w1.heap.size, 5, none⟩ = some (.slice a vals.length c) := cl_of hN.at' 5
    have hlA := lt_of hN.at'
    have hlP2 := cell_lt e2
    clear hN hvl HN0
    by_cases hlt : k < N
    · have hk0 : (k : Int) < N := by omega
      have HQ : Hid (OwnQ ((wr.alloc (.cells (madeCells #[.int .u8 0] n) 5)).alloc (.cells #[.slice (some ⟨wr.heap.size, 0, none⟩) n n] 26)).drew 26 (.slice a vals.length c) vals) := Lib.hid (HN.out.own.but ((((But.refl [] wr).alloc _).alloc _).drew) (by simp))
      have HSRC : Hid (Src Try.prog i0.size 39 (.slice (some ⟨wr.heap.size + 1, 0, none⟩) 1 1) [Value.slice (some ⟨wr.heap.size, 0, none⟩) n n].length [Value.slice (some ⟨wr.heap.size, 0, none⟩) n n] ((wr.alloc (.cells (madeCells #[.int .u8 0] n) 5)).alloc (.cells #[.slice (some ⟨wr.heap.size, 0, none⟩) n n] 26)).drew) := Lib.hid (by
        rw [hz1]
        refine Src.ofSlice _ Try.underlying39 _ 1 1 _ (by simp) (fun j u hj => ?_) (by intro u hu; simp at hu; subst hu; rfl)
        cases j with
        | zero =>
          simp at hj
          subst hj
          rw [add_at]
          exact cl_of (al_eq _ _ _ (by rw [size_alloc])) 0
        | succ j => simp at hj)
      have KEY := Lib.hid (fun (v' : Value) (w7 : World) (hap : Appended ((wr.alloc (.cells (madeCells #[.int .u8 0] n) 5)).alloc (.cells #[.slice (some ⟨wr.heap.size, 0, none⟩) n n] 26)).drew w7 26 (.slice a vals.length c) v' vals [.slice (some ⟨wr.heap.size, 0, none⟩) n n]) => newR_step HN.out hn.2 hn.1 hap)
      go_wp2_with fail
      go_region_law (refine step_append_row (by rfl) _ _ 39 (by rfl) 26 i0 (.slice none 0 0) 24 Try.underlying39 hi hz0 hz1 hz2 rfl _ vals (by rfl) HQ.out [_] _ (by rfl) HSRC.out (by unfold maxLen; have h0 : ∀ x : Value, [x].length = 1 := fun _ => rfl; rw [h0]; omega) (by have h0 : ∀ x : Value, [x].length = 1 := fun _ => rfl; rw [h0]; omega) ?_; intro v' w7 hap; obtain ⟨a7, c7, rfl, gf7, ⟨u7, gc7⟩, vals7, hv7, h7⟩ := KEY.out _ _ hap; have H7 := Lib.hid h7; have HV7 := Lib.hid hv7; clear hap h7 hv7)
      all_goals
        go_wp2_with fail
        go_roundw
        case rel => exact ⟨k + 1, a7, c7, vals7, by omega, by go_num, H7.out, by rw [HV7.out, HVL.out]⟩
        case measure => simp [intOf]; omega
    · obtain rfl : k = N := by omega
      go_wp2_with fail
      go_ret2
      first | exact ⟨_, rfl, a, c, vals, HN.out.low_w HB.out, HVL.out⟩ | exact ⟨_, _, _, _, rfl, HN.out.low_w HB.out, HVL.out⟩
end Go.Proofs.Ytpoinhfkgnkedaa.M
