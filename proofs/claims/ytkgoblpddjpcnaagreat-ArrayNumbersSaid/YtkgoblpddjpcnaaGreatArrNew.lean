/-
  New.
-/
import Derived.Test.YtkgoblpddjpcnaaGreatArrW
import Derived.Test.YtkgoblpddjpcnaaGreatStr
import Derived.Deep.RegionLaw
import Derived.Lib.SmallJoins
namespace Go.Proofs.YtkgoblpddjpcnaaGreat.M
open Go.RowKit Go.Shelf
set_option linter.unusedVariables false
set_option linter.unusedSectionVars false
set_option linter.unusedSimpArgs false
attribute [local go_sem ↓] Go.wp_at_zero Go.wp_at_succ
def zeros (n : Nat) : List Value := (madeCells #[.int .u8 0] n).toList
theorem zeros_len (n : Nat) : (zeros n).length = n := by simp [zeros, madeCells]
theorem zeros_bytes (n : Nat) : ∀ u ∈ zeros n, ∃ n : Int, u = .int .u8 n := by
  intro u hu
  simp only [zeros, madeCells, Array.toList_map, List.mem_map] at hu
  obtain ⟨i, _, rfl⟩ := hu
  exact ⟨0, by simp [Nat.mod_one]⟩
theorem own_addr (a : Option Addr) (n c n' c' : Nat) : (Value.slice a n c).ownBlock = (Value.slice a n' c').ownBlock := by cases a <;> rfl
theorem specE_array {key val ent : Int} (h : specE 1 key val ent = 0) : key = 4 ∧ 1 ≤ val ∧ val ≤ 1024 ∧ 1 ≤ ent ∧ ent ≤ 1024 := by
  simp only [specE, rowB1, rowE] at h
  split at h
  · rename_i hb
    simp only [inB, Bool.and_eq_true, decide_eq_true_eq] at hb
    omega
  · omega
/-- An array that is being made. -/
structure NewS (W wr : World) (A n : Nat) (a : Option Addr) (c : Nat) (vals : List Value) : Prop where
  hA : W.heap.size ≤ A
  at' : wr.heap[A]? = some (.cells #[.slice a vals.length c, .int .i64 n] 58)
  own : OwnQ wr 36 (.slice a vals.length c) vals
  low : ∀ b, (Value.slice a vals.length c).ownBlock = some b → W.heap.size ≤ b
  each : ∀ (i : Nat) (v : Value), vals[i]? = some v → OwnQ wr 5 v (zeros n) ∧ ∀ b, v.ownBlock = some b → W.heap.size ≤ b
  apart : ∀ (i j : Nat) (u v : Value) (b : Nat), vals[i]? = some u → vals[j]? = some v → u.ownBlock = some b → v.ownBlock = some b → i = j
  but : But [] W wr
theorem newS_step {W wr w7 : World} {A n : Nat} {a : Option Addr} {c : Nat} {vals : List Value} {v' : Value} (h : NewS W wr A n a c vals) (hn : n ≤ 1024) (hn1 : 1 ≤ n)
    (hap : Appended ((wr.alloc (.cells (madeCells #[.int .u8 0] n) 5)).alloc (.cells #[.slice (some ⟨wr.heap.size, 0, none⟩) n n] 36)).drew w7 36 (.slice a vals.length c) v' vals [.slice (some ⟨wr.heap.size, 0, none⟩) n n]) :
    ∃ a7 c7, v' = .slice a7 (vals.length + 1) c7 ∧ w7.frozen? ⟨A, 0, none⟩ = false ∧ (∃ u, w7.cell? ⟨A, 0, none⟩ = some u) ∧ ∃ vals', vals'.length = vals.length + 1 ∧ NewS W (w7.setCell ⟨A, 0, none⟩ (.slice a7 (vals.length + 1) c7)) A n a7 c7 vals' := by
  obtain ⟨hq, hc⟩ := hap
  obtain ⟨a7, c7, e⟩ := hq.form
  rw [List.length_append, List.length_singleton] at e
  subst e
  have hb0 : But [] wr ((wr.alloc (.cells (madeCells #[.int .u8 0] n) 5)).alloc (.cells #[.slice (some ⟨wr.heap.size, 0, none⟩) n n] 36)).drew := (((But.refl [] wr).alloc _).alloc _).drew
  have hrow0 : OwnQ ((wr.alloc (.cells (madeCells #[.int .u8 0] n) 5)).alloc (.cells #[.slice (some ⟨wr.heap.size, 0, none⟩) n n] 36)).drew 5 (.slice (some ⟨wr.heap.size, 0, none⟩) n n) (zeros n) := by
    have hg : ((wr.alloc (.cells (madeCells #[.int .u8 0] n) 5)).alloc (.cells #[.slice (some ⟨wr.heap.size, 0, none⟩) n n] 36)).drew.heap[wr.heap.size]? = some (.cells (madeCells #[.int .u8 0] n) 5) := al_keep (al_at _ _) _
    refine .inr ⟨wr.heap.size, 0, n, _, by rw [zeros_len], hg, by rw [zeros_len]; exact Nat.le_refl _, by unfold maxLen; omega, by simp [madeCells], fun j u hj => by rw [Nat.zero_add]; simpa [zeros] using hj⟩
  have hb7 : But (Value.slice a vals.length c).ownBlock.toList wr w7 := by
    rcases hc with ⟨_, _, _, _, _, hb⟩ | ⟨_, hb⟩
    · exact (hb0.mono (by simp)).trans hb (fun x h => .inl h)
    · exact (hb0.trans hb (by simp)).mono (by simp)
  have hlow7 : ∀ b, (Value.slice a7 (vals.length + 1) c7).ownBlock = some b → W.heap.size ≤ b := fun b hb => by
    rcases hc with ⟨a2, cap, e1, e2, _, _⟩ | ⟨hnew, _⟩
    · simp only [Value.slice.injEq] at e1 e2
      obtain ⟨rfl, _, rfl⟩ := e1
      obtain ⟨rfl, _, rfl⟩ := e2
      exact h.low b ((own_addr _ _ _ _ _).trans hb)
    · rw [hnew] at hb
      cases hb
      exact Nat.le_trans h.but.size hb0.size
  have hAn : A ∉ (Value.slice a vals.length c).ownBlock.toList := fun hm => by
    obtain ⟨cur, hg⟩ := h.own.tag A (by simpa using hm)
    rw [h.at'] at hg
    simp only [Option.some.injEq, Obj.cells.injEq] at hg
    exact absurd hg.2.1 (by decide)
  have hA7 := hb7.heap h.at' hAn
  have hs : But [A] w7 (w7.setCell ⟨A, 0, none⟩ (.slice a7 (vals.length + 1) c7)) := (But.refl _ _).setCell (.inl (by simp)) _
  have hne : ∀ {e : TypeId} {v : Value} {xs : List Value}, OwnQ w7 e v xs → e ≠ 58 → ∀ b, v.ownBlock = some b → b ∉ [A] := fun hq he b hb hm => by
    simp only [List.mem_singleton] at hm
    subst hm
    obtain ⟨cur, hg⟩ := hq.tag _ hb
    rw [hA7] at hg
    simp only [Option.some.injEq, Obj.cells.injEq] at hg
    exact he hg.2.1.symm
  have hoff : ∀ {v : Value} {xs : List Value}, OwnQ wr 5 v xs → ∀ b, v.ownBlock = some b → b ∉ (Value.slice a vals.length c).ownBlock.toList := fun ho b hb hm => ho.ne h.own (by decide) hb (by simpa using hm)
  have hrow7 : OwnQ w7 5 (.slice (some ⟨wr.heap.size, 0, none⟩) n n) (zeros n) := by
    rcases hc with ⟨_, _, _, _, _, hb⟩ | ⟨_, hb⟩
    · exact hrow0.but hb (fun b hb' hm => hrow0.ne (h.own.but hb0 (by simp)) (by decide) hb' (by simpa using hm))
    · exact hrow0.but hb (by simp)
  have last : ∀ {i : Nat} {u : Value}, (vals ++ [Value.slice (some ⟨wr.heap.size, 0, none⟩) n n])[i]? = some u → vals[i]? = some u ∨ (i = vals.length ∧ u = .slice (some ⟨wr.heap.size, 0, none⟩) n n) := fun {i u} hu => by
    by_cases hi : i < vals.length
    · rw [List.getElem?_append_left hi] at hu; exact .inl hu
    · rw [List.getElem?_append_right (by omega)] at hu
      cases hii : i - vals.length with
      | zero => rw [hii] at hu; simp at hu; exact .inr ⟨by omega, hu.symm⟩
      | succ m => rw [hii] at hu; simp at hu
  have hold : ∀ {i : Nat} {u : Value} {b : Nat}, vals[i]? = some u → u.ownBlock = some b → b < wr.heap.size := fun hu hb => (h.each _ _ hu).1.lt hb
  have hl : (vals ++ [Value.slice (some ⟨wr.heap.size, 0, none⟩) n n]).length = vals.length + 1 := by rw [List.length_append]; rfl
  refine ⟨a7, c7, rfl, by unfold World.frozen?; rw [hA7]; simp, ⟨_, cl_of hA7 0⟩, vals ++ [.slice (some ⟨wr.heap.size, 0, none⟩) n n], hl, h.hA, ?_, ?_, ?_, fun i v hv => ?_, fun i j u v b hu hv hbu hbv => ?_, ?_⟩
  · rw [hl]; simp [World.setCell, Array.getElem?_modify, hA7]
  · rw [hl]; exact hq.but hs (hne hq (by decide))
  · rw [hl]; exact hlow7
  · rcases last hv with hv | ⟨_, rfl⟩
    · obtain ⟨q1, q2⟩ := h.each i v hv
      exact ⟨(q1.but hb7 (hoff q1)).but hs (hne (q1.but hb7 (hoff q1)) (by decide)), q2⟩
    · exact ⟨hrow7.but hs (hne hrow7 (by decide)), fun b hb => by cases hb; exact h.but.size⟩
  · rcases last hu with hu | ⟨e1, rfl⟩
    · rcases last hv with hv | ⟨e2, rfl⟩
      · exact h.apart i j u v b hu hv hbu hbv
      · have h9 := hold hu hbu
        cases hbv
        exact absurd h9 (Nat.lt_irrefl _)
    · rcases last hv with hv | ⟨e2, rfl⟩
      · have h9 := hold hv hbv
        cases hbu
        exact absurd h9 (Nat.lt_irrefl _)
      · omega
  · exact (h.but.trans hb7 (fun x hx => .inr (h.low x (by simpa using hx)))).trans hs (fun x hx => .inr (by simp only [List.mem_singleton] at hx; subst hx; exact h.hA))
theorem NewS.done {W wr : World} {A n : Nat} {a : Option Addr} {c : Nat} {vals : List Value} (h : NewS W wr A n a c vals) (hn : 1 ≤ n ∧ n ≤ 1024) (hv : vals.length ≤ 1024) (ok : Nat → Prop) (hok : ∀ b, W.heap.size ≤ b → ok b) : ArrS wr ok A n (List.replicate vals.length (zeros n)) := by
  refine ⟨hok _ h.hA, ⟨a, c, vals, h.at', h.own, by simp, fun b hb => hok b (h.low b hb), h.apart, fun j v r hv' hr => ?_⟩, fun r hr => ?_, hn, by simpa using hv⟩
  · rw [List.getElem?_replicate] at hr
    split at hr
    · cases hr
      exact ⟨(h.each j v hv').1, fun b hb => hok b ((h.each j v hv').2 b hb)⟩
    · cases hr
  · rw [List.mem_replicate] at hr
    rw [hr.2]
    exact ⟨zeros_bytes n, zeros_len n⟩
section
variable {w : World} {P : Nat}
/-- The box of a make. -/
def BoxS (w : World) (P : Nat) (k key val ent : Int) : Prop := w.heap[P]? = some (.cells #[.int .u8 k, .int .i64 key, .int .i64 val, .int .i64 ent] 24)
set_option maxHeartbeats 1000000 in
theorem new1_err (k key val ent E : Int) (hk : (Lit.int .u8 k).wf = true) (hE : specE k key val ent = E) (h0 : (E == 0) = false) (hb : BoxS w P k key val ent) :
    Calls Tryz.prog 20 #[.pointer (some ⟨P, 0, none⟩)] w fun e w' => e = thrown E ∧ But [] w w' := by
  have HE := Lib.hid hE
  have c0 : w.cell? ⟨P, 0, none⟩ = some (.int .u8 k) := cl_of hb 0
  have c1 : w.cell? ⟨P, 1, none⟩ = some (.int .i64 key) := cl_of hb 1
  have c2 : w.cell? ⟨P, 2, none⟩ = some (.int .i64 val) := cl_of hb 2
  have c3 : w.cell? ⟨P, 3, none⟩ = some (.int .i64 ent) := cl_of hb 3
  clear hE hb
  go_enter Tryz.func20, Tryz.ntmps20
  go_wp2_with fail
  refine (calls_val (specAny k key val ent _ hk) (v' := .int .i64 E) (by rw [HE.out])).mono ?_
  rintro e w1 ⟨rfl, hb⟩
  go_wp2_with fail
  refine (must_no _ _).mono ?_
  rintro e w2 ⟨he, rfl⟩
  dsimp only [thrown] at he
  subst he
  go_wp2_with fail
  exact ⟨rfl, rfl, hb⟩
set_option maxHeartbeats 1000000 in
theorem new1_kind (k key val ent : Int) (hk : (Lit.int .u8 k).wf = true) (hE : specE k key val ent = 0) (h1 : (k == 1) = false) (hb : BoxS w P k key val ent) :
    Calls Tryz.prog 20 #[.pointer (some ⟨P, 0, none⟩)] w fun e w' => e = thrown 9 ∧ But [] w w' := by
  have HE := Lib.hid hE
  have HBX := Lib.hid hb
  have c0 : w.cell? ⟨P, 0, none⟩ = some (.int .u8 k) := cl_of hb 0
  have c1 : w.cell? ⟨P, 1, none⟩ = some (.int .i64 key) := cl_of hb 1
  have c2 : w.cell? ⟨P, 2, none⟩ = some (.int .i64 val) := cl_of hb 2
  have c3 : w.cell? ⟨P, 3, none⟩ = some (.int .i64 ent) := cl_of hb 3
  clear hE hb
  go_enter Tryz.func20, Tryz.ntmps20
  go_wp2_with fail
  refine (calls_val (specAny k key val ent _ hk) (v' := .int .i64 0) (by rw [HE.out])).mono ?_
  rintro e w1 ⟨rfl, hb⟩
  have d0 : w1.cell? ⟨P, 0, none⟩ = some (.int .u8 k) := cl_of (hb.heap HBX.out (by simp)) 0
  have HB := Lib.hid hb
  clear hb c0 c1 c2 c3
  go_wp2_with fail
  refine (must_yes _ _).mono ?_
  rintro e w2 ⟨rfl, rfl⟩
  go_wp2_with fail
  refine (must_no _ _).mono ?_
  rintro e w2 ⟨he, rfl⟩
  dsimp only [thrown] at he
  subst he
  go_wp2_with fail
  exact ⟨rfl, rfl, HB.out⟩
set_option maxRecDepth 100000 in
set_option maxHeartbeats 4000000 in
theorem new1_ok (n m : Nat) (hn : 1 ≤ n ∧ n ≤ 1024) (hm : 1 ≤ m ∧ m ≤ 1024) (hE : specE 1 4 n m = 0) (hb : BoxS w P 1 4 n m) :
    Calls Tryz.prog 20 #[.pointer (some ⟨P, 0, none⟩)] w fun e w' => ∃ A a c vals, e = .returned (.pointer (some ⟨A, 0, none⟩)) ∧ NewS w w' A n a c vals ∧ vals.length = m := by
  obtain ⟨i0, hi, hz0, hz1, hz2⟩ := info_parts (show (Tryz.prog.info? 36).map (fun i => (i.zero, i.size, i.bytes)) = some (some (.slice none 0 0), 1, 24) by kernel_rfl)
  obtain ⟨j0, ki, kz0, kz1, kz2⟩ := info_parts (show (Tryz.prog.info? 5).map (fun i => (i.zero, i.size, i.bytes)) = some (some (.int .u8 0), 1, 1) by kernel_rfl)
  have HE := Lib.hid hE
  have HBX := Lib.hid hb
  have hmk : ∀ w, (Instr.makeSlice 36 (.int .i64 (n : Int)) (.int .i64 (n : Int))).run Tryz.prog w = .ok (.slice (some ⟨w.heap.size, 0, none⟩) n n) (w.alloc (.cells (madeCells #[.int .u8 0] n) 5)) := fun w => by
    have h := run_make (P := Tryz.prog) w 36 5 j0 (.int .u8 0) Tryz.underlying36 ki kz0 .i64 .i64 (n : Int) (n : Int) (by omega) (by omega) (by rw [kz2]; omega) (by omega)
    rw [h, kz1]
    simp only [Int.toNat_natCast, Nat.mul_one]
    rfl
  have c0 : w.cell? ⟨P, 0, none⟩ = some (.int .u8 1) := cl_of hb 0
  have c1 : w.cell? ⟨P, 1, none⟩ = some (.int .i64 4) := cl_of hb 1
  have c2 : w.cell? ⟨P, 2, none⟩ = some (.int .i64 n) := cl_of hb 2
  have c3 : w.cell? ⟨P, 3, none⟩ = some (.int .i64 m) := cl_of hb 3
  clear hE hb
  go_enter Tryz.func20, Tryz.ntmps20
  go_wp2_with fail
  refine (calls_val (specAny 1 4 n m _ rfl) (v' := .int .i64 0) (by rw [HE.out])).mono ?_
  rintro e w1 ⟨rfl, hb⟩
  have hbx := hb.heap HBX.out (by simp)
  have d0 : w1.cell? ⟨P, 0, none⟩ = some (.int .u8 1) := cl_of hbx 0
  have d2 : w1.cell? ⟨P, 2, none⟩ = some (.int .i64 n) := cl_of hbx 2
  have d3 : w1.cell? ⟨P, 3, none⟩ = some (.int .i64 m) := cl_of hbx 3
  have hlP := lt_of hbx
  have HB := Lib.hid hb
  clear hb c0 c1 c2 c3 hbx
  go_wp2_with fail
  refine (must_yes _ _).mono ?_
  rintro e w2 ⟨rfl, rfl⟩
  go_wp2_with fail
  refine (must_yes _ _).mono ?_
  rintro e w2 ⟨rfl, rfl⟩
  have HN0 : Hid (NewS w (w1.alloc (.cells #[.slice none 0 0, .int .i64 n] 58)) w1.heap.size n none 0 []) := Lib.hid ⟨HB.out.size, al_at _ _, .inl ⟨rfl, rfl⟩, (fun b hb => by cases hb), (fun i v hv => by simp at hv), (fun i j u v b hu => by simp at hu), HB.out.alloc _⟩
  go_wp2_with fail
  go_loopw [20] (fun i wr => ∃ k a c vals, k ≤ m ∧ i = .int .i64 k ∧ NewS w wr w1.heap.size n a c vals ∧ vals.length = k) (fun i _ => m - (intOf i).toNat)
  case atStart => exact ⟨0, _, _, _, Nat.zero_le _, rfl, HN0.out, rfl⟩
  case round =>
    obtain ⟨k, a, c, vals, hk, rfl, hN, hvl⟩ := hrel
    have HN := Lib.hid hN
    have HVL := Lib.hid hvl
    have hvl2 : vals.length ≤ 1024 := by omega
    have e2 : wr.cell? ⟨P, 2, none⟩ = some (.int .i64 n) := cl_of (hN.but.heap HBX.out (by simp)) 2
    have e0 : wr.cell? ⟨w1.heap.size, 0, none⟩ = some (.slice a vals.length c) := cl_of hN.at' 0
    have hlA := lt_of hN.at'
    have hlP2 := cell_lt e2
    clear hN hvl HN0
    by_cases hlt : k < m
    · have hk0 : (k : Int) < m := by omega
      have HQ : Hid (OwnQ ((wr.alloc (.cells (madeCells #[.int .u8 0] n) 5)).alloc (.cells #[.slice (some ⟨wr.heap.size, 0, none⟩) n n] 36)).drew 36 (.slice a vals.length c) vals) := Lib.hid (HN.out.own.but ((((But.refl [] wr).alloc _).alloc _).drew) (by simp))
      have HSRC : Hid (Src Tryz.prog i0.size 54 (.slice (some ⟨wr.heap.size + 1, 0, none⟩) 1 1) [Value.slice (some ⟨wr.heap.size, 0, none⟩) n n].length [Value.slice (some ⟨wr.heap.size, 0, none⟩) n n] ((wr.alloc (.cells (madeCells #[.int .u8 0] n) 5)).alloc (.cells #[.slice (some ⟨wr.heap.size, 0, none⟩) n n] 36)).drew) := Lib.hid (by
        rw [hz1]
        refine Src.ofSlice _ Tryz.underlying54 _ 1 1 _ (by simp) (fun j u hj => ?_) (by intro u hu; simp at hu; subst hu; rfl)
        cases j with
        | zero =>
          simp at hj
          subst hj
          rw [add_at]
          exact cl_of (al_eq _ _ _ (by rw [size_alloc])) 0
        | succ j => simp at hj)
      have KEY := Lib.hid (fun (v' : Value) (w7 : World) (hap : Appended ((wr.alloc (.cells (madeCells #[.int .u8 0] n) 5)).alloc (.cells #[.slice (some ⟨wr.heap.size, 0, none⟩) n n] 36)).drew w7 36 (.slice a vals.length c) v' vals [.slice (some ⟨wr.heap.size, 0, none⟩) n n]) => newS_step HN.out hn.2 hn.1 hap)
      go_wp2_with fail
      go_region_law (refine step_append_row (by rfl) _ _ 54 (by rfl) 36 i0 (.slice none 0 0) 24 Tryz.underlying54 hi hz0 hz1 hz2 rfl _ vals (by rfl) HQ.out [_] _ (by rfl) HSRC.out (by unfold maxLen; have h0 : ∀ x : Value, [x].length = 1 := fun _ => rfl; rw [h0]; omega) (by have h0 : ∀ x : Value, [x].length = 1 := fun _ => rfl; rw [h0]; omega) ?_; intro v' w7 hap; obtain ⟨a7, c7, rfl, gf7, ⟨u7, gc7⟩, vals7, hv7, h7⟩ := KEY.out _ _ hap; have H7 := Lib.hid h7; have HV7 := Lib.hid hv7; clear hap h7 hv7)
      all_goals
        go_wp2_with fail
        go_roundw
        case rel => exact ⟨k + 1, a7, c7, vals7, by omega, by go_num, H7.out, by rw [HV7.out, HVL.out]⟩
        case measure => simp [intOf]; omega
    · obtain rfl : k = m := by omega
      go_wp2_with fail
      go_ret
      first | exact ⟨_, a, c, vals, rfl, HN.out, HVL.out⟩ | exact ⟨_, rfl, a, c, vals, HN.out, HVL.out⟩
end
set_option maxHeartbeats 1000000 in
theorem newErr {w : World} (k key val ent : Int) (E : Int) (hk : (Lit.int .u8 k).wf = true) (hE : specE k key val ent = E) (h0 : (E == 0) = false) : Calls Tryz.prog 7 #[.agg #[.int .u8 k, .int .i64 key, .int .i64 val, .int .i64 ent]] w fun e w' => e = .returned (.tuple #[.pointer none, .int .i64 E]) ∧ But [] w w' := by
  have HE := Lib.hid hE
  clear hE
  have hmf : ∀ (fn : Fn) (first cap : Array Value) (w : World), (Instr.makeFunc fn first cap).run Tryz.prog w = .ok (.func fn first cap) w := fun _ _ _ _ => rfl
  obtain ⟨w1, hw1⟩ : ∃ w1, w1 = w.alloc (.cells #[.int .u8 k, .int .i64 key, .int .i64 val, .int .i64 ent] 24) := ⟨_, rfl⟩
  have hb1 : But [] w w1 := by rw [hw1]; exact (But.refl [] w).alloc _
  have g0 : w1.heap[w.heap.size]? = some (.cells #[.int .u8 k, .int .i64 key, .int .i64 val, .int .i64 ent] 24) := by rw [hw1]; exact al_at w _
  have HW := Lib.hid hw1
  have HB1 := Lib.hid hb1
  have G0 := Lib.hid g0
  clear hw1 hb1 g0
  go_enter Tryz.func7, Tryz.ntmps7
  go_wp2_with fail
  rw [← HW.out]
  refine (triedPE 20 #[.pointer (some ⟨w.heap.size, 0, none⟩)] w1 (fun args w => by kernel_rfl) E (fun w3 => But [] w1 w3) (fun w2 hb2 hz2 => ?_)).mono ?_
  · refine (new1_err k key val ent E hk HE.out h0 (hb2.heap G0.out (by simp))).mono ?_
    rintro e w3 ⟨rfl, hb3⟩
    exact ⟨rfl, hb2.trans hb3 (by simp), [], hb3, by simp, by simp⟩
  rintro e w' ⟨rfl, w3, hb3, hb4⟩
  have HB := Lib.hid (((HB1.out.trans hb3 (by simp))).trans hb4 (fun x hx => .inr (by have := HB1.out.size; simp at hx; omega)))
  clear hb3 hb4
  go_wp2_with fail
  go_ret2
  exact ⟨rfl, HB.out⟩
set_option maxHeartbeats 1000000 in
theorem newKind {w : World} (k key val ent : Int) (hk : (Lit.int .u8 k).wf = true) (hE : specE k key val ent = 0) (h1 : (k == 1) = false) : Calls Tryz.prog 7 #[.agg #[.int .u8 k, .int .i64 key, .int .i64 val, .int .i64 ent]] w fun e w' => e = .returned (.tuple #[.pointer none, .int .i64 9]) ∧ But [] w w' := by
  have HE := Lib.hid hE
  clear hE
  have hmf : ∀ (fn : Fn) (first cap : Array Value) (w : World), (Instr.makeFunc fn first cap).run Tryz.prog w = .ok (.func fn first cap) w := fun _ _ _ _ => rfl
  obtain ⟨w1, hw1⟩ : ∃ w1, w1 = w.alloc (.cells #[.int .u8 k, .int .i64 key, .int .i64 val, .int .i64 ent] 24) := ⟨_, rfl⟩
  have hb1 : But [] w w1 := by rw [hw1]; exact (But.refl [] w).alloc _
  have g0 : w1.heap[w.heap.size]? = some (.cells #[.int .u8 k, .int .i64 key, .int .i64 val, .int .i64 ent] 24) := by rw [hw1]; exact al_at w _
  have HW := Lib.hid hw1
  have HB1 := Lib.hid hb1
  have G0 := Lib.hid g0
  clear hw1 hb1 g0
  go_enter Tryz.func7, Tryz.ntmps7
  go_wp2_with fail
  rw [← HW.out]
  refine (triedPE 20 #[.pointer (some ⟨w.heap.size, 0, none⟩)] w1 (fun args w => by kernel_rfl) 9 (fun w3 => But [] w1 w3) (fun w2 hb2 hz2 => ?_)).mono ?_
  · refine (new1_kind k key val ent hk HE.out h1 (hb2.heap G0.out (by simp))).mono ?_
    rintro e w3 ⟨rfl, hb3⟩
    exact ⟨rfl, hb2.trans hb3 (by simp), [], hb3, by simp, by simp⟩
  rintro e w' ⟨rfl, w3, hb3, hb4⟩
  have HB := Lib.hid (((HB1.out.trans hb3 (by simp))).trans hb4 (fun x hx => .inr (by have := HB1.out.size; simp at hx; omega)))
  clear hb3 hb4
  go_wp2_with fail
  go_ret2
  exact ⟨rfl, HB.out⟩
set_option maxHeartbeats 1000000 in
theorem newArr {w : World} (n m : Nat) (hn : 1 ≤ n ∧ n ≤ 1024) (hm : 1 ≤ m ∧ m ≤ 1024) (hE : specE 1 4 n m = 0) (ok : Nat → Prop) (hok : ∀ b, w.heap.size ≤ b → ok b) : Calls Tryz.prog 7 #[.agg #[.int .u8 1, .int .i64 4, .int .i64 n, .int .i64 m]] w fun e w' => ∃ A, e = .returned (.tuple #[.pointer (some ⟨A, 0, none⟩), .int .i64 0]) ∧ ArrS w' ok A n (List.replicate m (zeros n)) ∧ But [] w w' := by
  have HE := Lib.hid hE
  have HOK := Lib.hid hok
  clear hE hok
  have hmf : ∀ (fn : Fn) (first cap : Array Value) (w : World), (Instr.makeFunc fn first cap).run Tryz.prog w = .ok (.func fn first cap) w := fun _ _ _ _ => rfl
  obtain ⟨w1, hw1⟩ : ∃ w1, w1 = w.alloc (.cells #[.int .u8 1, .int .i64 4, .int .i64 n, .int .i64 m] 24) := ⟨_, rfl⟩
  have hb1 : But [] w w1 := by rw [hw1]; exact (But.refl [] w).alloc _
  have g0 : w1.heap[w.heap.size]? = some (.cells #[.int .u8 1, .int .i64 4, .int .i64 n, .int .i64 m] 24) := by rw [hw1]; exact al_at w _
  have HW := Lib.hid hw1
  have HB1 := Lib.hid hb1
  have G0 := Lib.hid g0
  clear hw1 hb1 g0
  go_enter Tryz.func7, Tryz.ntmps7
  go_wp2_with fail
  rw [← HW.out]
  refine (triedPX 20 #[.pointer (some ⟨w.heap.size, 0, none⟩)] w1 (fun args w => by kernel_rfl) (fun a w3 => ∃ A, a = some ⟨A, 0, none⟩ ∧ ArrS w3 (fun b => w1.heap.size + 2 ≤ b) A n (List.replicate m (zeros n)) ∧ But [] w1 w3) (fun w2 hb2 hz2 => ?_)).mono ?_
  · refine (new1_ok n m hn hm HE.out (hb2.heap G0.out (by simp))).mono ?_
    rintro e w3 ⟨A, a, c, vals, rfl, hN, hvl⟩
    have hd := hN.done hn (by omega) (fun b => w1.heap.size + 2 ≤ b) (fun b hb => by omega)
    rw [hvl] at hd
    exact ⟨_, rfl, ⟨A, rfl, hd, hb2.trans hN.but (by simp)⟩, [], hN.but, by simp, by simp⟩
  rintro e w' ⟨a, rfl, w3, ⟨A, rfl, hd, hb3⟩, hb4⟩
  have HD : Hid (ArrS w' ok A n (List.replicate m (zeros n))) := Lib.hid ((hd.keep hb4 (fun x hx hk => by simp at hx; have h2 : w1.heap.size + 2 ≤ x := hk; omega)).also (fun b _ hk => HOK.out b (by have := HB1.out.size; have h2 : w1.heap.size + 2 ≤ b := hk; omega)))
  have HB := Lib.hid (((HB1.out.trans hb3 (by simp))).trans hb4 (fun x hx => .inr (by have := HB1.out.size; simp at hx; omega)))
  clear hd hb3 hb4
  go_wp2_with fail
  go_ret2
  first | exact ⟨A, rfl, HD.out, HB.out⟩ | exact ⟨_, rfl, HD.out, HB.out⟩
end Go.Proofs.YtkgoblpddjpcnaaGreat.M
