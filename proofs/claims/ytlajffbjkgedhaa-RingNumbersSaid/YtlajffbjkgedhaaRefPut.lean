/-
  The reference's ring: Put.
-/
import Derived.Test.YtlajffbjkgedhaaRefRing
import Derived.Deep.RegionLaw
namespace Go.Proofs.Ytlajffbjkgedhaa.M
open Go.RowKit
set_option linter.unusedVariables false
set_option linter.unusedSectionVars false
set_option linter.unusedSimpArgs false
theorem refPut_long {w : World} (X : Nat) (a : Option Addr) (m c : Nat) (hm : 65536 < m) (hm2 : m ≤ 1000000000000000) :
    Calls Try.prog 16 #[.pointer (some ⟨X, 0, none⟩), .slice a m c] w fun e w' => e = .returned (.int .i64 3) ∧ w = w' := by
  go_enter Try.func16, Try.ntmps16
  go_wp2_with fail
  go_ret
  exact ⟨rfl, rfl⟩
theorem refPut_full {w : World} {ok : Nat → Prop} {X : Nat} {n : Int} {rows : List (List Value)} (h : RefS w ok X n rows) (hn0 : 0 ≤ n) (hn : n ≤ 1000000) (hu : usedR rows ≤ n) (hl : rows.length ≤ 1000000) (a : Option Addr) (m c : Nat) (hm : m ≤ 65536) (hf : n < 8 + m + usedR rows) :
    Calls Try.prog 16 #[.pointer (some ⟨X, 0, none⟩), .slice a m c] w fun e w' => e = .returned (.int .i64 8) ∧ w = w' := by
  have H := Lib.hid h
  have hu0 := usedR_nonneg rows
  have hf2 : n - usedR rows < (m : Int) + 8 := by omega
  clear h
  go_enter Try.func16, Try.ntmps16
  go_wp2_with (go_at_call 20; refine (H.out.room hn0 hn hu hl).mono ?_; rintro e w1 ⟨rfl, rfl⟩)
  go_ret
  exact ⟨rfl, rfl⟩
theorem own_addr (a : Option Addr) (n c n' c' : Nat) : (Value.slice a n c).ownBlock = (Value.slice a n' c').ownBlock := by cases a <;> rfl
/-- The row that is laid for what is put. -/
structure NewRow (w w5 : World) (v : Value) (xs : List Value) : Prop where
  own : OwnQ w5 5 v xs
  low : ∀ b, v.ownBlock = some b → w.heap.size ≤ b
  but : But [] w w5
theorem newRow {w w5 : World} {v' : Value} {xs : List Value} (hap : Appended (w.drew.alloc (.cells #[] 5)) w5 5 (.slice (some ⟨w.heap.size, 0, none⟩) 0 0) v' [] xs) : ∃ a c, v' = .slice a xs.length c ∧ NewRow w w5 v' xs := by
  obtain ⟨hq, hc⟩ := hap
  rw [List.nil_append] at hq
  obtain ⟨a', c', rfl⟩ := hq.form
  refine ⟨a', c', rfl, ?_⟩
  have hb0 : But [] w (w.drew.alloc (.cells #[] 5)) := ((But.refl [] w).drew).alloc _
  rcases hc with ⟨a2, cap, e1, e2, _, hb⟩ | ⟨hn, hb⟩
  · simp only [Value.slice.injEq] at e1 e2
    obtain ⟨rfl, _, rfl⟩ := e1
    obtain ⟨rfl, _, rfl⟩ := e2
    exact ⟨hq, fun b hb' => by cases hb'; exact Nat.le_refl _, hb0.trans hb (fun x hx => .inr (by simp [Value.ownBlock] at hx; omega))⟩
  · refine ⟨hq, fun b hb' => ?_, hb0.trans hb (by simp)⟩
    rw [hn] at hb'
    cases hb'
    rw [size_alloc]
    exact Nat.le_succ _
theorem refPut_state {w w5 w7 : World} {ok : Nat → Prop} {X : Nat} {n : Int} {rows : List (List Value)} {a : Option Addr} {c : Nat} {vals : List Value} {v v' : Value} {xs : List Value} (hB : ok X)
    (h1 : w.heap[X]? = some (.cells #[.int .u8 7, .int .i64 0, .int .i64 0, .int .i64 n, .slice a vals.length c] 60)) (h2 : OwnQ w 36 (.slice a vals.length c) vals) (h3 : vals.length = rows.length) (h4 : ∀ b, (Value.slice a vals.length c).ownBlock = some b → ok b)
    (h5 : ∀ (j : Nat) (v : Value) (r : List Value), vals[j]? = some v → rows[j]? = some r → OwnQ w 5 v r ∧ ∀ b, v.ownBlock = some b → ok b) (hok : ∀ b, w.heap.size ≤ b → ok b)
    (hn : NewRow w w5 v xs) (hap : Appended (w5.alloc (.cells #[v] 36)) w7 36 (.slice a vals.length c) v' vals [v]) :
    ∃ a7 c7, v' = .slice a7 (vals.length + 1) c7 ∧ w7.frozen? ⟨X, 4, none⟩ = false ∧ (∃ u, w7.cell? ⟨X, 4, none⟩ = some u) ∧ RefS (w7.setCell ⟨X, 4, none⟩ v') ok X n (rows ++ [xs]) ∧ ∃ L, But L w (w7.setCell ⟨X, 4, none⟩ v') ∧ ∀ x ∈ L, ok x ∧ ∃ cs t, w.heap[x]? = some (.cells cs t) ∧ (t = 60 ∨ t = 36) := by
  obtain ⟨hq, hc⟩ := hap
  obtain ⟨a7, c7, e⟩ := hq.form
  rw [List.length_append, List.length_singleton] at e
  subst e
  have hb5 : But [] w (w5.alloc (.cells #[v] 36)) := hn.but.alloc _
  have hb7 : But (Value.slice a vals.length c).ownBlock.toList w w7 := by
    rcases hc with ⟨_, _, _, _, _, hb⟩ | ⟨_, hb⟩
    · exact (hb5.mono (by simp)).trans hb (fun x h => .inl h)
    · exact (hb5.trans hb (by simp)).mono (by simp)
  have hlow7 : ∀ b, (Value.slice a7 (vals.length + 1) c7).ownBlock = some b → ok b := fun b hb => by
    rcases hc with ⟨a2, cap, e1, e2, _, _⟩ | ⟨hnew, _⟩
    · simp only [Value.slice.injEq] at e1 e2
      obtain ⟨rfl, _, rfl⟩ := e1
      obtain ⟨rfl, _, rfl⟩ := e2
      exact h4 b ((own_addr _ _ _ _ _).trans hb)
    · rw [hnew] at hb
      cases hb
      exact hok _ hb5.size
  have hXn : X ∉ (Value.slice a vals.length c).ownBlock.toList := fun hm => by
    obtain ⟨cur, hg⟩ := h2.tag X (by simpa using hm)
    rw [h1] at hg
    simp only [Option.some.injEq, Obj.cells.injEq] at hg
    exact absurd hg.2.1 (by decide)
  have hX7 := hb7.heap h1 hXn
  have hs : But [X] w7 (w7.setCell ⟨X, 4, none⟩ (.slice a7 (vals.length + 1) c7)) := (But.refl _ _).setCell (.inl (by simp)) _
  have hne : ∀ {e : TypeId} {v : Value} {xs : List Value}, OwnQ w7 e v xs → e ≠ 60 → ∀ b, v.ownBlock = some b → b ∉ [X] := fun hq he b hb hm => by
    simp only [List.mem_singleton] at hm
    subst hm
    obtain ⟨cur, hg⟩ := hq.tag _ hb
    rw [hX7] at hg
    simp only [Option.some.injEq, Obj.cells.injEq] at hg
    exact he hg.2.1.symm
  have hoff : ∀ {v : Value} {xs : List Value}, OwnQ w 5 v xs → ∀ b, v.ownBlock = some b → b ∉ (Value.slice a vals.length c).ownBlock.toList := fun h b hb hm => h.ne h2 (by decide) hb (by simpa using hm)
  have hown : ∀ {v : Value} {xs : List Value}, OwnQ w 5 v xs → OwnQ (w7.setCell ⟨X, 4, none⟩ (.slice a7 (vals.length + 1) c7)) 5 v xs := fun h => (h.but hb7 (hoff h)).but hs (hne (h.but hb7 (hoff h)) (by decide))
  have hnew : OwnQ w7 5 v xs := by
    have hn5 : OwnQ (w5.alloc (.cells #[v] 36)) 5 v xs := hn.own.but ((But.refl [] _).alloc _) (by simp)
    rcases hc with ⟨_, _, _, _, _, hb⟩ | ⟨_, hb⟩
    · exact hn5.but hb (fun b hb' hm => hn5.ne (h2.but hb5 (by simp)) (by decide) hb' (by simpa using hm))
    · exact hn5.but hb (by simp)
  refine ⟨a7, c7, rfl, by unfold World.frozen?; rw [hX7]; simp, ⟨_, cl_of hX7 4⟩, ⟨hB, a7, c7, vals ++ [v], ?_, ?_, by simp [h3], ?_, fun j u r hu hr => ?_⟩, X :: (Value.slice a vals.length c).ownBlock.toList, (hb7.mono (fun x h => List.mem_cons_of_mem _ h)).trans hs (fun x h => .inl (by simp at h; simp [h])), fun x hx => ?_⟩
  · simp [World.setCell, Array.getElem?_modify, hX7]
  · rw [List.length_append, List.length_singleton]
    exact hq.but hs (hne hq (by decide))
  · rw [List.length_append, List.length_singleton]
    exact hlow7
  · by_cases hj : j < vals.length
    · rw [List.getElem?_append_left hj] at hu
      rw [List.getElem?_append_left (by omega)] at hr
      exact ⟨hown (h5 j u r hu hr).1, (h5 j u r hu hr).2⟩
    · rw [List.getElem?_append_right (by omega)] at hu
      rw [List.getElem?_append_right (by omega), ← h3] at hr
      cases hjj : j - vals.length with
      | zero =>
        rw [hjj] at hu hr
        simp only [List.getElem?_cons_zero, Option.some.injEq] at hu hr
        subst hu; subst hr
        exact ⟨hnew.but hs (hne hnew (by decide)), fun b hb => hok b (hn.low b hb)⟩
      | succ m => rw [hjj] at hu; simp at hu
  · rcases List.mem_cons.1 hx with rfl | hx
    · exact ⟨hB, _, _, h1, .inl rfl⟩
    · have hx' : (Value.slice a vals.length c).ownBlock = some x := by simpa using hx
      obtain ⟨cur, hg⟩ := h2.tag x hx'
      exact ⟨h4 x hx', _, _, hg, .inr rfl⟩
set_option maxRecDepth 100000 in
set_option maxHeartbeats 4000000 in
theorem refPut_ok {w : World} {ok : Nat → Prop} {X : Nat} {n : Int} {rows : List (List Value)} (h : RefS w ok X n rows) (hn0 : 0 ≤ n) (hn : n ≤ 1000000) (hu : usedR rows ≤ n) (hl : rows.length ≤ 100000) (hok : ∀ b, w.heap.size ≤ b → ok b) {s : Value} {xs : List Value} (hs : Sees w s xs) (hx : IsBytes xs) (hm : xs.length ≤ 65536) (hf : 8 + xs.length + usedR rows ≤ n) :
    Calls Try.prog 16 #[.pointer (some ⟨X, 0, none⟩), s] w fun e w' => e = .returned (.int .i64 0) ∧ RefS w' ok X n (rows ++ [xs]) ∧ ∃ L, But L w w' ∧ ∀ x ∈ L, ok x ∧ ∃ cs t, w.heap[x]? = some (.cells cs t) ∧ (t = 60 ∨ t = 36) := by
  obtain ⟨i0, hi, hz0, hz1, hz2⟩ := info_parts (show (Try.prog.info? 36).map (fun i => (i.zero, i.size, i.bytes)) = some (some (.slice none 0 0), 1, 24) by kernel_rfl)
  obtain ⟨j0, ki, kz0, kz1, kz2⟩ := info_parts (show (Try.prog.info? 5).map (fun i => (i.zero, i.size, i.bytes)) = some (some (.int .u8 0), 1, 1) by kernel_rfl)
  obtain ⟨a1, c1, rfl, _⟩ := sees_shape hs
  have H := Lib.hid h
  have hu0 := usedR_nonneg rows
  have hf2 : ¬ n - usedR rows < (xs.length : Int) + 8 := by omega
  obtain ⟨hB, a, c, vals, h1, h2, h3, h4, h5⟩ := h
  have hvl : vals.length ≤ 100000 := by omega
  have hlt := lt_of h1
  have c4 : w.cell? ⟨X, 4, none⟩ = some (.slice a vals.length c) := cl_of h1 4
  have HS : Hid (Src Try.prog j0.size 36 (.slice a1 xs.length c1) xs.length xs (w.drew.alloc (.cells #[] 5))) := Lib.hid (src_sees Try.underlying36 kz1 (hs.but (((But.refl [] w).drew).alloc _) (by simp)) hx.one)
  have HQ0 : Hid (OwnQ (w.drew.alloc (.cells #[] 5)) 5 (.slice (some ⟨w.heap.size, 0, none⟩) 0 0) []) := Lib.hid (.inr ⟨w.heap.size, 0, 0, #[], rfl, al_at _ _, Nat.le_refl _, by unfold maxLen; omega, by simp, fun j u h => by simp at h⟩)
  have HM := Lib.hid hf
  have KEY1 := Lib.hid (fun (v' : Value) (w5 : World) (hap : Appended (w.drew.alloc (.cells #[] 5)) w5 5 (.slice (some ⟨w.heap.size, 0, none⟩) 0 0) v' [] xs) => newRow hap)
  have KEYC : Hid (∀ w5 : World, But [] w w5 → w5.cell? ⟨X, 4, none⟩ = some (.slice a vals.length c) ∧ w5.frozen? ⟨X, 4, none⟩ = false) := Lib.hid fun w5 hb => ⟨cell_but hb c4 (by simp), by have := hb.heap h1 (by simp); unfold World.frozen?; rw [this]; simp⟩
  have KEYQ : Hid (∀ (w5 : World) (v : Value), But [] w w5 → OwnQ (w5.alloc (.cells #[v] 36)) 36 (.slice a vals.length c) vals) := Lib.hid fun w5 v hb => (h2.but hb (by simp)).but ((But.refl [] w5).alloc _) (by simp)
  have KEYS : Hid (∀ (w5 : World) (a5 : Option Addr) (n5 c5 : Nat), Src Try.prog i0.size 35 (.slice (some ⟨w5.heap.size, 0, none⟩) 1 1) [Value.slice a5 n5 c5].length [Value.slice a5 n5 c5] (w5.alloc (.cells #[.slice a5 n5 c5] 36))) := Lib.hid fun w5 a5 n5 c5 => by
    rw [hz1]
    exact Src.ofSlice _ Try.underlying35 _ 1 1 _ (by simp) (cell_one_new _ _ _) (by intro u hu; simp at hu; subst hu; rfl)
  have KEY2 := Lib.hid (fun (w5 w7 : World) (v v' : Value) (hn : NewRow w w5 v xs) (hap : Appended (w5.alloc (.cells #[v] 36)) w7 36 (.slice a vals.length c) v' vals [v]) => refPut_state hB h1 h2 h3 h4 h5 hok hn hap)
  clear h1 h2 h3 h4 h5 hf hs hB hok
  go_enter Try.func16, Try.ntmps16
  go_wp2_with (go_at_call 20; refine (H.out.room hn0 hn hu (by omega)).mono ?_; rintro e w1 ⟨rfl, rfl⟩)
  go_region_law? (first
    | (refine step_append_row rfl _ _ 36 rfl 5 j0 (.int .u8 0) 1 Try.underlying36 ki kz0 kz1 kz2 rfl _ [] (by rfl) HQ0.out xs _ (by rfl) HS.out (by unfold maxLen; have h0 : ([] : List Value).length = 0 := rfl; omega) (by have h0 : ([] : List Value).length = 0 := rfl; omega) ?_; intro v' w5 hap; obtain ⟨a5, c5, rfl, hn5⟩ := KEY1.out _ _ hap; obtain ⟨gc5, gf5⟩ := KEYC.out _ hn5.but; have HN5 := Lib.hid hn5; have hlt5 : X < w5.heap.size := Nat.lt_of_lt_of_le hlt HN5.out.but.size; clear hap hn5)
    | (refine step_append_row rfl _ _ 35 rfl 36 i0 (.slice none 0 0) 24 Try.underlying35 hi hz0 hz1 hz2 rfl _ vals (by rfl) (KEYQ.out _ _ HN5.out.but) [_] _ (by rfl) (KEYS.out _ _ _ _) (by unfold maxLen; have h0 : ∀ x : Value, [x].length = 1 := fun _ => rfl; rw [h0]; omega) (by have h0 : ∀ x : Value, [x].length = 1 := fun _ => rfl; rw [h0]; omega) ?_; intro v' w7 hap; obtain ⟨a7, c7, rfl, gf7, ⟨u7, gc7⟩, h7⟩ := KEY2.out _ _ _ _ HN5.out hap; have H7 := Lib.hid h7; clear hap h7))
  all_goals
    go_wp2_with fail
    go_ret
    exact ⟨rfl, H7.out⟩
end Go.Proofs.Ytlajffbjkgedhaa.M
