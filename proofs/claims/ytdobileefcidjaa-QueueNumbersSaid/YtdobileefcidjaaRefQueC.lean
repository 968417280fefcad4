/-
  The reference's queue: Push.
-/
import Derived.Test.YtdobileefcidjaaRefQueB
import Derived.BigQuiet
import Derived.Deep.DeepCutAuto
namespace Go.Proofs.Ytdobileefcidjaa.M
open Go.RowKit Go.Shelf
set_option linter.unusedVariables false
set_option linter.unusedSectionVars false
set_option linter.unusedSimpArgs false
attribute [local go_sem ↓] Go.wp_at_zero Go.wp_at_succ
theorem RefQ.pushArg {w : World} {ok : Nat → Prop} {X : Nat} {k val ent : Int} {rows : List (List Value)} (h : RefQ w ok X k val ent rows) (a : Option Addr) (n c : Nat) (f : Int) (hf : (n : Int) ≠ val ∨ (f ≠ 0 ∧ f ≠ 2)) :
    Calls Try.prog 19 #[.pointer (some ⟨X, 0, none⟩), .slice a n c, .int .u64 f] w fun e w' => e = .returned (.int .i64 2) ∧ w = w' := by
  obtain ⟨hB, a0, c0, vals, h1, h2, h3, h4, h5⟩ := h
  have g2 : w.cell? ⟨X, 2, none⟩ = some (.int .i64 val) := cl_of h1 2
  clear h1 h2 h3 h4 h5 hB
  by_cases hl : (n : Int) = val
  · obtain ⟨hf0, hf2⟩ : f ≠ 0 ∧ f ≠ 2 := by rcases hf with h | h; exact absurd hl h; exact h
    have b1 : ((n : Int) != val) = false := by simp [hl]
    have b2 : (f != 0) = true := by simp [hf0]
    have b3 : (f != 2) = true := by simp [hf2]
    clear hf hl
    go_enter Try.func19, Try.ntmps19
    go_wp2_with fail
    go_ret
    exact ⟨rfl, rfl⟩
  · have b1 : ((n : Int) != val) = true := by simp [hl]
    clear hf
    go_enter Try.func19, Try.ntmps19
    go_wp2_with fail
    go_ret
    exact ⟨rfl, rfl⟩
theorem RefQ.pushFull {w : World} {ok : Nat → Prop} {X : Nat} {k val ent : Int} {rows : List (List Value)} (h : RefQ w ok X k val ent rows) (a : Option Addr) (n c : Nat) (hv : (n : Int) = val) (he : (rows.length : Int) = ent) :
    Calls Try.prog 19 #[.pointer (some ⟨X, 0, none⟩), .slice a n c, .int .u64 0] w fun e w' => e = .returned (.int .i64 8) ∧ But [] w w' := by
  subst hv he
  obtain ⟨hB, a0, c0, vals, h1, h2, h3, h4, h5⟩ := h
  rw [← h3] at h1
  have g2 : w.cell? ⟨X, 2, none⟩ = some (.int .i64 n) := cl_of h1 2
  have g3 : w.cell? ⟨X, 3, none⟩ = some (.int .i64 vals.length) := cl_of h1 3
  have g4 : w.cell? ⟨X, 4, none⟩ = some (.slice a0 vals.length c0) := cl_of h1 4
  clear h1 h2 h3 h4 h5 hB
  go_enter Try.func19, Try.ntmps19
  go_wp2_with go_quiet (fail)
  all_goals go_wp2
  go_ret
  exact ⟨rfl, (But.refl [] _).drewN _⟩
/-- Behind the three appends of a Push. -/
theorem RefQ.grown {W w5 w6 w7 : World} {ok : Nat → Prop} {X : Nat} {k val ent : Int} {rows : List (List Value)} {sl v' : Value} {vals xs : List Value} {a1 a2 : Option Addr} {c1 c2 : Nat} (h1 : W.heap[X]? = some (.cells #[.int .u8 k, .int .i64 0, .int .i64 val, .int .i64 ent, sl] 49)) (hB : ok X) (hok : ∀ b, W.heap.size ≤ b → ok b) (hlen : vals.length = rows.length)
    (hrows : ∀ (j : Nat) (v : Value) (r : List Value), vals[j]? = some v → rows[j]? = some r → OwnQ W 5 v r ∧ ∀ b, v.ownBlock = some b → ok b)
    (q5 : OwnQ w5 36 (.slice a1 vals.length c1) vals) (n5 : ∀ b, (Value.slice a1 vals.length c1).ownBlock = some b → W.heap.size ≤ b) (b5 : But [] W w5)
    (q6 : OwnQ w6 5 (.slice a2 xs.length c2) xs) (n6 : ∀ b, (Value.slice a2 xs.length c2).ownBlock = some b → w5.heap.size ≤ b) (b6 : But [] w5 w6)
    (hap : Appended (w6.alloc (.cells #[.slice a2 xs.length c2] 36)) w7 36 (.slice a1 vals.length c1) v' vals [.slice a2 xs.length c2]) :
    ∃ a3 c3, v' = .slice a3 (vals.length + 1) c3 ∧ w7.frozen? ⟨X, 4, none⟩ = false ∧ (∃ u, w7.cell? ⟨X, 4, none⟩ = some u) ∧ RefQ (w7.setCell ⟨X, 4, none⟩ (.slice a3 (vals.length + 1) c3)) ok X k val ent (rows ++ [xs]) ∧ But [X] W (w7.setCell ⟨X, 4, none⟩ (.slice a3 (vals.length + 1) c3)) := by
  obtain ⟨hq, hc⟩ := hap
  obtain ⟨a3, c3, e⟩ := hq.form
  have hl : (vals ++ [Value.slice a2 xs.length c2]).length = vals.length + 1 := by rw [List.length_append]; rfl
  rw [hl] at e
  subst e
  have b56 : But [] W w6 := b5.trans b6 (by simp)
  have b6a : But [] W (w6.alloc (.cells #[.slice a2 xs.length c2] 36)) := b56.alloc _
  have b7 : But [] (w6.alloc (.cells #[.slice a2 xs.length c2] 36)) w7 ∨ But (Value.slice a1 vals.length c1).ownBlock.toList (w6.alloc (.cells #[.slice a2 xs.length c2] 36)) w7 := by
    rcases hc with ⟨_, _, _, _, _, hb⟩ | ⟨_, hb⟩
    · exact .inr hb
    · exact .inl hb
  have bW7 : But [] W w7 := by
    rcases b7 with hb | hb
    · exact b6a.trans hb (by simp)
    · exact b6a.trans hb (fun x hx => .inr (n5 x (by simpa using hx)))
  have hrow7 : OwnQ w7 5 (.slice a2 xs.length c2) xs := by
    have hn : OwnQ (w6.alloc (.cells #[.slice a2 xs.length c2] 36)) 5 (.slice a2 xs.length c2) xs := q6.but ((But.refl [] _).alloc _) (by simp)
    rcases b7 with hb | hb
    · exact hn.but hb (by simp)
    · exact hn.but hb (fun b hb' hm => hn.ne ((q5.but b6 (by simp)).but ((But.refl [] _).alloc _) (by simp)) (by decide) hb' (by simpa using hm))
  have hlow : ∀ b, (Value.slice a3 (vals ++ [Value.slice a2 xs.length c2]).length c3).ownBlock = some b → ok b := fun b hb => by
    rw [hl] at hb
    rcases hc with ⟨a0, cap, e1, e2, _, _⟩ | ⟨hn, _⟩
    · refine hok b (n5 b ?_)
      rw [e1]
      rw [e2] at hb
      exact (own_addr _ _ _ _ _).trans hb
    · rw [hn] at hb
      cases hb
      exact hok _ b6a.size
  have h := RefQ.store (rows' := rows ++ [xs]) hB h1 bW7 (a3 := a3) (c3 := c3) (vals := vals ++ [.slice a2 xs.length c2]) (by rw [hl]; exact hq) hlow (by simp [hlen]) (fun j u r hu hr => by
    by_cases hj : j < vals.length
    · rw [List.getElem?_append_left hj] at hu
      rw [List.getElem?_append_left (by omega)] at hr
      exact ⟨(hrows j u r hu hr).1.but bW7 (by simp), (hrows j u r hu hr).2⟩
    · rw [List.getElem?_append_right (by omega)] at hu
      rw [List.getElem?_append_right (by omega), ← hlen] at hr
      cases hjj : j - vals.length with
      | zero =>
        rw [hjj] at hu hr
        simp only [List.getElem?_cons_zero, Option.some.injEq] at hu hr
        subst hu; subst hr
        exact ⟨hrow7, fun b hb => hok b (Nat.le_trans b5.size (n6 b hb))⟩
      | succ m => rw [hjj] at hu; simp at hu)
  rw [hl] at h
  exact ⟨a3, c3, rfl, h⟩
/-- What stands ahead of the three appends. -/
structure PushAt (w : World) (ok : Nat → Prop) (X : Nat) (k val ent : Int) (a : Option Addr) (c : Nat) (vals : List Value) (rows : List (List Value)) (W : World) : Prop where
  at4 : W.heap[X]? = some (.cells #[.int .u8 k, .int .i64 0, .int .i64 val, .int .i64 ent, .slice a vals.length c] 49)
  own : OwnQ W 36 (.slice a vals.length c) vals
  but : But [X] w W
  len : vals.length = rows.length
  each : ∀ (j : Nat) (v : Value) (r : List Value), vals[j]? = some v → rows[j]? = some r → OwnQ W 5 v r ∧ ∀ b, v.ownBlock = some b → ok b
section
variable {w W : World} {ok : Nat → Prop} {X : Nat} {k val ent : Int} {a : Option Addr} {c : Nat} {vals : List Value} {rows : List (List Value)} {i0 j0 : TypeInfo}
theorem PushAt.src1 (h : PushAt w ok X k val ent a c vals rows W) (hz1 : i0.size = 1) : Src Try.prog i0.size 35 (.slice a vals.length c) vals.length vals (W.alloc (.cells #[] 36)) :=
  src_sees Try.underlying35 hz1 (h.own.sees.but ((But.refl [] W).alloc _) (by simp)) (fun u hu => by
    obtain ⟨i, hi⟩ := List.getElem?_of_mem hu
    obtain ⟨r, hr⟩ : ∃ r, rows[i]? = some r := ⟨_, List.getElem?_eq_getElem (by have := (List.getElem?_eq_some_iff.1 hi).1; have := h.len; omega)⟩
    obtain ⟨a', c', rfl⟩ := (h.each i u r hi hr).1.form
    rfl)
theorem PushAt.src2 (h : PushAt w ok X k val ent a c vals rows W) (kz1 : j0.size = 1) {s : Value} {xs : List Value} (hs : Sees w s xs) (hxo : ∀ b, s.ownBlock = some b → b ≠ X) (h1 : ∀ u ∈ xs, u.oneCell' = true) {w5 : World} (hb : But [] W w5) : Src Try.prog j0.size 36 s xs.length xs (w5.alloc (.cells #[] 5)) :=
  src_sees Try.underlying36 kz1 ((hs.but h.but (fun b hb' hm => hxo b hb' (by simpa using hm))).but (hb.alloc _) (by simp)) h1
theorem own_on {w5 w6 : World} {a5 : Option Addr} {c5 : Nat} {vals : List Value} (o : Obj) (hq : OwnQ w5 36 (.slice a5 vals.length c5) vals) (hb : But [] w5 w6) : OwnQ (w6.alloc o) 36 (.slice a5 vals.length c5) vals := (hq.but hb (by simp)).but ((But.refl [] _).alloc _) (by simp)
theorem src_one (hz1 : i0.size = 1) (w5 : World) (a5 : Option Addr) (n5 c5 : Nat) : Src Try.prog i0.size 35 (.slice (some ⟨w5.heap.size, 0, none⟩) 1 1) [Value.slice a5 n5 c5].length [Value.slice a5 n5 c5] (w5.alloc (.cells #[.slice a5 n5 c5] 36)) := by
  rw [hz1]
  exact Src.ofSlice _ Try.underlying35 _ 1 1 _ (by simp) (cell_one_new _ _ _) (by intro u hu; simp at hu; subst hu; rfl)
theorem PushAt.last (h : PushAt w ok X k val ent a c vals rows W) (hB : ok X) (hok : ∀ b, w.heap.size ≤ b → ok b) {w5 w6 w7 : World} {v' : Value} {xs : List Value} {a1 a2 : Option Addr} {c1 c2 : Nat}
    (q5 : OwnQ w5 36 (.slice a1 vals.length c1) vals) (n5 : ∀ b, (Value.slice a1 vals.length c1).ownBlock = some b → W.heap.size ≤ b) (b5 : But [] W w5)
    (q6 : OwnQ w6 5 (.slice a2 xs.length c2) xs) (n6 : ∀ b, (Value.slice a2 xs.length c2).ownBlock = some b → w5.heap.size ≤ b) (b6 : But [] w5 w6)
    (hap : Appended (w6.alloc (.cells #[.slice a2 xs.length c2] 36)) w7 36 (.slice a1 vals.length c1) v' vals [.slice a2 xs.length c2]) :
    ∃ a3 c3, v' = .slice a3 (vals.length + 1) c3 ∧ w7.frozen? ⟨X, 4, none⟩ = false ∧ (∃ u, w7.cell? ⟨X, 4, none⟩ = some u) ∧ RefQ (w7.setCell ⟨X, 4, none⟩ (.slice a3 (vals.length + 1) c3)) ok X k val ent (rows ++ [xs]) ∧ But [X] w (w7.setCell ⟨X, 4, none⟩ (.slice a3 (vals.length + 1) c3)) := by
  obtain ⟨a3, c3, e, h1, h2, h3, h4⟩ := RefQ.grown h.at4 hB (fun b hb => hok b (Nat.le_trans h.but.size hb)) h.len h.each q5 n5 b5 q6 n6 b6 hap
  exact ⟨a3, c3, e, h1, h2, h3, h.but.trans h4 (fun x hx => .inl hx)⟩
end
set_option maxRecDepth 100000 in
set_option maxHeartbeats 2000000 in
theorem RefQ.pushMore0 {w : World} {ok : Nat → Prop} {X : Nat} {k val ent : Int} {rows : List (List Value)} (h : RefQ w ok X k val ent rows) {s : Value} {xs : List Value} (hx : Sees w s xs) (hxo : ∀ b, s.ownBlock = some b → b ≠ X) (hb : ∀ u ∈ xs, ∃ n : Int, u = .int .u8 n) (hrl : xs.length ≤ 1000000) (hv : (xs.length : Int) = val) (he : (rows.length : Int) ≠ ent) (hl : rows.length ≤ 1000000) (hok : ∀ b, w.heap.size ≤ b → ok b) :
    Calls Try.prog 19 #[.pointer (some ⟨X, 0, none⟩), s, .int .u64 0] w fun e w' => e = .returned (.int .i64 0) ∧ RefQ w' ok X k val ent (rows ++ [xs]) ∧ But [X] w w' := by
  obtain ⟨i0, hi, hz0, hz1, hz2⟩ := info_parts (show (Try.prog.info? 36).map (fun i => (i.zero, i.size, i.bytes)) = some (some (.slice none 0 0), 1, 24) by kernel_rfl)
  obtain ⟨j0, ki, kz0, kz1, kz2⟩ := info_parts (show (Try.prog.info? 5).map (fun i => (i.zero, i.size, i.bytes)) = some (some (.int .u8 0), 1, 1) by kernel_rfl)
  obtain ⟨a1, c1, rfl, -⟩ := sees_shape hx
  have HX := Lib.hid hx
  have HXO := Lib.hid hxo
  have HO := Lib.hid (IsBytes_one hb)
  have HOK : Hid (∀ b, w.heap.size ≤ b → ok b) := Lib.hid hok
  obtain ⟨hB, a, c, vals, h1, h2, h3, h4, h5⟩ := h
  have hltX := lt_of h1
  have HBO := Lib.hid hB
  have g2 : w.cell? ⟨X, 2, none⟩ = some (.int .i64 val) := cl_of h1 2
  have g3 : w.cell? ⟨X, 3, none⟩ = some (.int .i64 ent) := cl_of h1 3
  have g4 : w.cell? ⟨X, 4, none⟩ = some (.slice a vals.length c) := cl_of h1 4
  have f4 : w.frozen? ⟨X, 4, none⟩ = false := by unfold World.frozen?; rw [h1]; simp
  have f4n : ∀ n, (w.drewN n).frozen? ⟨X, 4, none⟩ = false := fun _ => f4
  have b1 : ((xs.length : Int) != val) = false := by simp [hv]
  have hvl : vals.length ≤ 1000000 := by omega
  have g4n : ∀ n, (w.drewN n).cell? ⟨X, 4, none⟩ = some (.slice a vals.length c) := fun _ => g4
  have b4 : ((vals.length : Int) == ent) = false := by rw [h3]; simpa using he
  have GOOD : Hid (∀ n, PushAt w ok X k val ent a c vals rows (w.drewN n)) := Lib.hid fun n => ⟨h1, h2.but ((But.refl [] w).drewN n) (by simp), (But.refl [X] w).drewN n, h3, fun j v r hv hr => ⟨(h5 j v r hv hr).1.but ((But.refl [] w).drewN n) (by simp), (h5 j v r hv hr).2⟩⟩
  clear h1 h2 h3 h4 h5 hB hx hb he hok hv hxo
  go_enter Try.func19, Try.ntmps19
  go_upto_region 7 with (go_quiet (fail))
  obtain ⟨W, hW⟩ : ∃ W, W = w.drewN nq := ⟨_, rfl⟩
  have GW : Hid (PushAt w ok X k val ent a c vals rows W) := Lib.hid (by rw [hW]; exact GOOD.out nq)
  rw [← hW]
  clear hW g2 g3 g4 f4 g4n f4n b1 hltX
  have k4 : W.cell? ⟨X, 4, none⟩ = some (.slice (a) vals.length (c)) := cl_of GW.out.at4 4
  have hltW := lt_of GW.out.at4
  have kf : W.frozen? ⟨X, 4, none⟩ = false := by unfold World.frozen?; rw [GW.out.at4]; simp
  go_wp2_with (first
    | (at_builtin; first
      | (refine wpList_append_row (by rfl) _ _ 35 (by rfl) 36 i0 (.slice none 0 0) 24 Try.underlying35 hi hz0 hz1 hz2 rfl _ [] (by rfl) (fresh_at _ _) vals _ (by rfl) (PushAt.src1 GW.out hz1) (by unfold maxLen; have h0 : ([] : List Value).length = 0 := rfl; omega) (by have h0 : ([] : List Value).length = 0 := rfl; omega) ?_; intro v' w5 hap; obtain ⟨a5, c5, rfl, q5, n5, b5⟩ := fresh hap; have Q5 := Lib.hid q5; have N5 := Lib.hid n5; have B5 := Lib.hid b5; clear hap q5 n5 b5)
      | (refine wpList_append_row (by rfl) _ _ 36 (by rfl) 5 j0 (.int .u8 0) 1 Try.underlying36 ki kz0 kz1 kz2 rfl _ [] (by rfl) (fresh_at _ _) xs _ (by rfl) (PushAt.src2 GW.out kz1 HX.out HXO.out HO.out B5.out) (by unfold maxLen; have h0 : ([] : List Value).length = 0 := rfl; omega) (by have h0 : ([] : List Value).length = 0 := rfl; omega) ?_; intro v' w6 hap; obtain ⟨a6, c6, rfl, q6, n6, b6⟩ := fresh hap; have Q6 := Lib.hid q6; have N6 := Lib.hid n6; have B6 := Lib.hid b6; clear hap q6 n6 b6)
      | (refine wpList_append_row (by rfl) _ _ 35 (by rfl) 36 i0 (.slice none 0 0) 24 Try.underlying35 hi hz0 hz1 hz2 rfl _ vals (by rfl) (own_on _ Q5.out B6.out) [_] _ (by rfl) (src_one hz1 _ _ _ _) (by unfold maxLen; have h0 : ∀ x : Value, [x].length = 1 := fun _ => rfl; rw [h0]; omega) (by have h0 : ∀ x : Value, [x].length = 1 := fun _ => rfl; rw [h0]; omega) ?_; intro v' w7 hap; obtain ⟨a7, c7, rfl, gf7, ⟨u7, gc7⟩, h7, b7⟩ := PushAt.last GW.out HBO.out HOK.out Q5.out N5.out B5.out Q6.out N6.out B6.out hap; have H7 := Lib.hid h7; have B7 := Lib.hid b7; clear hap h7 b7))
    | go_quiet (fail))
  go_ret
  exact ⟨rfl, H7.out, B7.out⟩
set_option maxRecDepth 100000 in
set_option maxHeartbeats 2000000 in
theorem RefQ.pushMore2 {w : World} {ok : Nat → Prop} {X : Nat} {k val ent : Int} {rows : List (List Value)} (h : RefQ w ok X k val ent rows) {s : Value} {xs : List Value} (hx : Sees w s xs) (hxo : ∀ b, s.ownBlock = some b → b ≠ X) (hb : ∀ u ∈ xs, ∃ n : Int, u = .int .u8 n) (hrl : xs.length ≤ 1000000) (hv : (xs.length : Int) = val) (he : (rows.length : Int) ≠ ent) (hl : rows.length ≤ 1000000) (hok : ∀ b, w.heap.size ≤ b → ok b) :
    Calls Try.prog 19 #[.pointer (some ⟨X, 0, none⟩), s, .int .u64 2] w fun e w' => e = .returned (.int .i64 0) ∧ RefQ w' ok X k val ent (rows ++ [xs]) ∧ But [X] w w' := by
  obtain ⟨i0, hi, hz0, hz1, hz2⟩ := info_parts (show (Try.prog.info? 36).map (fun i => (i.zero, i.size, i.bytes)) = some (some (.slice none 0 0), 1, 24) by kernel_rfl)
  obtain ⟨j0, ki, kz0, kz1, kz2⟩ := info_parts (show (Try.prog.info? 5).map (fun i => (i.zero, i.size, i.bytes)) = some (some (.int .u8 0), 1, 1) by kernel_rfl)
  obtain ⟨a1, c1, rfl, -⟩ := sees_shape hx
  have HX := Lib.hid hx
  have HXO := Lib.hid hxo
  have HO := Lib.hid (IsBytes_one hb)
  have HOK : Hid (∀ b, w.heap.size ≤ b → ok b) := Lib.hid hok
  obtain ⟨hB, a, c, vals, h1, h2, h3, h4, h5⟩ := h
  have hltX := lt_of h1
  have HBO := Lib.hid hB
  have g2 : w.cell? ⟨X, 2, none⟩ = some (.int .i64 val) := cl_of h1 2
  have g3 : w.cell? ⟨X, 3, none⟩ = some (.int .i64 ent) := cl_of h1 3
  have g4 : w.cell? ⟨X, 4, none⟩ = some (.slice a vals.length c) := cl_of h1 4
  have f4 : w.frozen? ⟨X, 4, none⟩ = false := by unfold World.frozen?; rw [h1]; simp
  have f4n : ∀ n, (w.drewN n).frozen? ⟨X, 4, none⟩ = false := fun _ => f4
  have b1 : ((xs.length : Int) != val) = false := by simp [hv]
  have hvl : vals.length ≤ 1000000 := by omega
  have g4n : ∀ n, (w.drewN n).cell? ⟨X, 4, none⟩ = some (.slice a vals.length c) := fun _ => g4
  have b4 : ((vals.length : Int) == ent) = false := by rw [h3]; simpa using he
  have GOOD : Hid (∀ n, PushAt w ok X k val ent a c vals rows (w.drewN n)) := Lib.hid fun n => ⟨h1, h2.but ((But.refl [] w).drewN n) (by simp), (But.refl [X] w).drewN n, h3, fun j v r hv hr => ⟨(h5 j v r hv hr).1.but ((But.refl [] w).drewN n) (by simp), (h5 j v r hv hr).2⟩⟩
  clear h1 h2 h3 h4 h5 hB hx hb he hok hv hxo
  go_enter Try.func19, Try.ntmps19
  go_upto_region 7 with (go_quiet (fail))
  obtain ⟨W, hW⟩ : ∃ W, W = w.drewN nq := ⟨_, rfl⟩
  have GW : Hid (PushAt w ok X k val ent a c vals rows W) := Lib.hid (by rw [hW]; exact GOOD.out nq)
  rw [← hW]
  clear hW g2 g3 g4 f4 g4n f4n b1 hltX
  have k4 : W.cell? ⟨X, 4, none⟩ = some (.slice (a) vals.length (c)) := cl_of GW.out.at4 4
  have hltW := lt_of GW.out.at4
  have kf : W.frozen? ⟨X, 4, none⟩ = false := by unfold World.frozen?; rw [GW.out.at4]; simp
  go_wp2_with (first
    | (at_builtin; first
      | (refine wpList_append_row (by rfl) _ _ 35 (by rfl) 36 i0 (.slice none 0 0) 24 Try.underlying35 hi hz0 hz1 hz2 rfl _ [] (by rfl) (fresh_at _ _) vals _ (by rfl) (PushAt.src1 GW.out hz1) (by unfold maxLen; have h0 : ([] : List Value).length = 0 := rfl; omega) (by have h0 : ([] : List Value).length = 0 := rfl; omega) ?_; intro v' w5 hap; obtain ⟨a5, c5, rfl, q5, n5, b5⟩ := fresh hap; have Q5 := Lib.hid q5; have N5 := Lib.hid n5; have B5 := Lib.hid b5; clear hap q5 n5 b5)
      | (refine wpList_append_row (by rfl) _ _ 36 (by rfl) 5 j0 (.int .u8 0) 1 Try.underlying36 ki kz0 kz1 kz2 rfl _ [] (by rfl) (fresh_at _ _) xs _ (by rfl) (PushAt.src2 GW.out kz1 HX.out HXO.out HO.out B5.out) (by unfold maxLen; have h0 : ([] : List Value).length = 0 := rfl; omega) (by have h0 : ([] : List Value).length = 0 := rfl; omega) ?_; intro v' w6 hap; obtain ⟨a6, c6, rfl, q6, n6, b6⟩ := fresh hap; have Q6 := Lib.hid q6; have N6 := Lib.hid n6; have B6 := Lib.hid b6; clear hap q6 n6 b6)
      | (refine wpList_append_row (by rfl) _ _ 35 (by rfl) 36 i0 (.slice none 0 0) 24 Try.underlying35 hi hz0 hz1 hz2 rfl _ vals (by rfl) (own_on _ Q5.out B6.out) [_] _ (by rfl) (src_one hz1 _ _ _ _) (by unfold maxLen; have h0 : ∀ x : Value, [x].length = 1 := fun _ => rfl; rw [h0]; omega) (by have h0 : ∀ x : Value, [x].length = 1 := fun _ => rfl; rw [h0]; omega) ?_; intro v' w7 hap; obtain ⟨a7, c7, rfl, gf7, ⟨u7, gc7⟩, h7, b7⟩ := PushAt.last GW.out HBO.out HOK.out Q5.out N5.out B5.out Q6.out N6.out B6.out hap; have H7 := Lib.hid h7; have B7 := Lib.hid b7; clear hap h7 b7))
    | go_quiet (fail))
  go_ret
  exact ⟨rfl, H7.out, B7.out⟩
set_option maxRecDepth 100000 in
set_option maxHeartbeats 2000000 in
theorem RefQ.pushThere {w : World} {ok : Nat → Prop} {X : Nat} {k val ent : Int} {r0 : List Value} {rows : List (List Value)} (h : RefQ w ok X k val ent (r0 :: rows)) {s : Value} {xs : List Value} (hx : Sees w s xs) (hxo : ∀ b, s.ownBlock = some b → b ≠ X) (hb : ∀ u ∈ xs, ∃ n : Int, u = .int .u8 n) (hrl : xs.length ≤ 1000000) (hv : (xs.length : Int) = val) (he : ((r0 :: rows).length : Int) = ent) (hl : rows.length ≤ 1000000) (hok : ∀ b, w.heap.size ≤ b → ok b) :
    Calls Try.prog 19 #[.pointer (some ⟨X, 0, none⟩), s, .int .u64 2] w fun e w' => e = .returned (.int .i64 0) ∧ RefQ w' ok X k val ent (rows ++ [xs]) ∧ But [X] w w' := by
  obtain ⟨i0, hi, hz0, hz1, hz2⟩ := info_parts (show (Try.prog.info? 36).map (fun i => (i.zero, i.size, i.bytes)) = some (some (.slice none 0 0), 1, 24) by kernel_rfl)
  obtain ⟨j0, ki, kz0, kz1, kz2⟩ := info_parts (show (Try.prog.info? 5).map (fun i => (i.zero, i.size, i.bytes)) = some (some (.int .u8 0), 1, 1) by kernel_rfl)
  obtain ⟨a1, c1, rfl, -⟩ := sees_shape hx
  have HX := Lib.hid hx
  have HXO := Lib.hid hxo
  have HO := Lib.hid (IsBytes_one hb)
  have HOK : Hid (∀ b, w.heap.size ≤ b → ok b) := Lib.hid hok
  obtain ⟨hB, a, c, vals, h1, h2, h3, h4, h5⟩ := h
  have hltX := lt_of h1
  have HBO := Lib.hid hB
  have g2 : w.cell? ⟨X, 2, none⟩ = some (.int .i64 val) := cl_of h1 2
  have g3 : w.cell? ⟨X, 3, none⟩ = some (.int .i64 ent) := cl_of h1 3
  have g4 : w.cell? ⟨X, 4, none⟩ = some (.slice a vals.length c) := cl_of h1 4
  have f4 : w.frozen? ⟨X, 4, none⟩ = false := by unfold World.frozen?; rw [h1]; simp
  have f4n : ∀ n, (w.drewN n).frozen? ⟨X, 4, none⟩ = false := fun _ => f4
  have b1 : ((xs.length : Int) != val) = false := by simp [hv]
  obtain ⟨v0, vals, rfl⟩ : ∃ v vs, vals = v :: vs := by
    cases vals with
    | nil => simp at h3
    | cons v vs => exact ⟨v, vs, rfl⟩
  obtain ⟨g, o, rfl⟩ := h2.addr (by simp)
  have h30 : vals.length = rows.length := by simpa using h3
  have hvl : vals.length ≤ 1000000 := by omega
  have b4 : (((v0 :: vals).length : Int) == ent) = true := by rw [h3]; simpa using he
  have b4' : (((vals.length : Int) + 1) == ent) = true := by rw [List.length_cons, Int.natCast_add] at b4; exact b4
  replace g4 : w.cell? ⟨X, 4, none⟩ = some (.slice (some ⟨g, o, none⟩) (vals.length + 1) c) := g4
  have g4n : ∀ n, (w.drewN n).cell? ⟨X, 4, none⟩ = some (.slice (some ⟨g, o, none⟩) (vals.length + 1) c) := fun _ => g4
  have hcap : vals.length + 1 ≤ c := by
    rcases h2 with ⟨h, _⟩ | ⟨g', o', cap', cur, he', hg, hc, _⟩
    · cases h
    · simp only [Value.slice.injEq] at he'
      obtain ⟨_, _, rfl⟩ := he'
      simpa using hc
  have hrows1 : ∀ (j : Nat) (v : Value) (r : List Value), vals[j]? = some v → rows[j]? = some r → OwnQ w 5 v r ∧ ∀ b, v.ownBlock = some b → ok b := fun j v r hv hr => h5 (j + 1) v r (by simpa using hv) (by simpa using hr)
  have parts : ∀ (n : Nat) (a' : Option Addr) (c' : Nat), OwnQ w 36 (.slice a' vals.length c') vals → PushAt w ok X k val ent a' c' vals rows ((w.drewN n).setCell ⟨X, 4, none⟩ (.slice a' vals.length c')) := fun n a' c' hq => by
    have hb : But [X] w ((w.drewN n).setCell ⟨X, 4, none⟩ (.slice a' vals.length c')) := (((But.refl [X] w).drewN n).setCell (.inl (by simp)) _)
    have hne : ∀ {e : TypeId} {v : Value} {ys : List Value}, OwnQ w e v ys → e ≠ 49 → OwnQ ((w.drewN n).setCell ⟨X, 4, none⟩ (.slice a' vals.length c')) e v ys := fun hq he => hq.but hb (fun b hb' hm => by
      simp only [List.mem_singleton] at hm
      subst hm
      obtain ⟨cur, hg⟩ := hq.tag _ hb'
      rw [h1] at hg
      simp only [Option.some.injEq, Obj.cells.injEq] at hg
      exact he hg.2.1.symm)
    refine ⟨?_, hne hq (by decide), hb, h30, fun j v r hv hr => ⟨hne (hrows1 j v r hv hr).1 (by decide), (hrows1 j v r hv hr).2⟩⟩
    simp [World.setCell, Array.getElem?_modify, h1]
  by_cases hc1 : c = 1
  · subst hc1
    obtain rfl : vals = [] := List.eq_nil_of_length_eq_zero (by omega)
    have GOOD : Hid (∀ n, PushAt w ok X k val ent (some ⟨g, o, none⟩) 0 [] rows ((w.drewN n).setCell ⟨X, 4, none⟩ (.slice (some ⟨g, o, none⟩) 0 0))) := Lib.hid fun n => parts n _ _ (h2.tail1 rfl)
    replace g4 : w.cell? ⟨X, 4, none⟩ = some (.slice (some ⟨g, o, none⟩) 1 1) := g4
    replace g4n : ∀ n, (w.drewN n).cell? ⟨X, 4, none⟩ = some (.slice (some ⟨g, o, none⟩) 1 1) := g4n
    replace b4' : ((1 : Int) == ent) = true := b4'
    clear h1 h2 h3 h30 h4 h5 hB hx hb he hok hv hxo hrows1 parts b4 hcap hvl
    have hvl : ([] : List Value).length ≤ 1000000 := by simp
    go_enter Try.func19, Try.ntmps19
    go_upto_region 7 with (go_quiet (fail))
    obtain ⟨W, hW⟩ : ∃ W, W = (w.drewN nq).setCell ⟨X, 4, none⟩ (.slice (some ⟨g, o, none⟩) 0 0) := ⟨_, rfl⟩
    have GW : Hid (PushAt w ok X k val ent (some ⟨g, o, none⟩) 0 [] rows W) := Lib.hid (by rw [hW]; exact GOOD.out nq)
    rw [← hW]
    clear hW g2 g3 g4 f4 g4n f4n b1 hltX
    have k4 : W.cell? ⟨X, 4, none⟩ = some (.slice ((some ⟨g, o, none⟩)) 0 (0)) := cl_of GW.out.at4 4
    have hltW := lt_of GW.out.at4
    have kf : W.frozen? ⟨X, 4, none⟩ = false := by unfold World.frozen?; rw [GW.out.at4]; simp
    go_wp2_with (first
      | (at_builtin; first
        | (refine wpList_append_row (by rfl) _ _ 35 (by rfl) 36 i0 (.slice none 0 0) 24 Try.underlying35 hi hz0 hz1 hz2 rfl _ [] (by rfl) (fresh_at _ _) [] _ (by rfl) (PushAt.src1 GW.out hz1) (by unfold maxLen; have h0 : ([] : List Value).length = 0 := rfl; omega) (by have h0 : ([] : List Value).length = 0 := rfl; omega) ?_; intro v' w5 hap; obtain ⟨a5, c5, rfl, q5, n5, b5⟩ := fresh hap; have Q5 := Lib.hid q5; have N5 := Lib.hid n5; have B5 := Lib.hid b5; clear hap q5 n5 b5)
        | (refine wpList_append_row (by rfl) _ _ 36 (by rfl) 5 j0 (.int .u8 0) 1 Try.underlying36 ki kz0 kz1 kz2 rfl _ [] (by rfl) (fresh_at _ _) xs _ (by rfl) (PushAt.src2 GW.out kz1 HX.out HXO.out HO.out B5.out) (by unfold maxLen; have h0 : ([] : List Value).length = 0 := rfl; omega) (by have h0 : ([] : List Value).length = 0 := rfl; omega) ?_; intro v' w6 hap; obtain ⟨a6, c6, rfl, q6, n6, b6⟩ := fresh hap; have Q6 := Lib.hid q6; have N6 := Lib.hid n6; have B6 := Lib.hid b6; clear hap q6 n6 b6)
        | (refine wpList_append_row (by rfl) _ _ 35 (by rfl) 36 i0 (.slice none 0 0) 24 Try.underlying35 hi hz0 hz1 hz2 rfl _ [] (by rfl) (own_on _ Q5.out B6.out) [_] _ (by rfl) (src_one hz1 _ _ _ _) (by unfold maxLen; have h0 : ∀ x : Value, [x].length = 1 := fun _ => rfl; rw [h0]; omega) (by have h0 : ∀ x : Value, [x].length = 1 := fun _ => rfl; rw [h0]; omega) ?_; intro v' w7 hap; obtain ⟨a7, c7, rfl, gf7, ⟨u7, gc7⟩, h7, b7⟩ := PushAt.last GW.out HBO.out HOK.out Q5.out N5.out B5.out Q6.out N6.out B6.out hap; have H7 := Lib.hid h7; have B7 := Lib.hid b7; clear hap h7 b7))
      | go_quiet (fail))
    go_ret
    exact ⟨rfl, H7.out, B7.out⟩
  · have GOOD : Hid (∀ n, PushAt w ok X k val ent (some ⟨g, o + 1, none⟩) (c - 1) vals rows ((w.drewN n).setCell ⟨X, 4, none⟩ (.slice (some ⟨g, o + 1, none⟩) vals.length (c - 1)))) := Lib.hid fun n => parts n _ _ h2.tail
    clear h1 h2 h3 h30 h4 h5 hB hx hb he hok hv hxo hrows1 parts b4
    go_enter Try.func19, Try.ntmps19
    go_upto_region 7 with (go_quiet (fail))
    obtain ⟨W, hW⟩ : ∃ W, W = (w.drewN nq).setCell ⟨X, 4, none⟩ (.slice (some ⟨g, o + 1, none⟩) vals.length (c - 1)) := ⟨_, rfl⟩
    have GW : Hid (PushAt w ok X k val ent (some ⟨g, o + 1, none⟩) (c - 1) vals rows W) := Lib.hid (by rw [hW]; exact GOOD.out nq)
    rw [← hW]
    clear hW g2 g3 g4 f4 g4n f4n b1 hltX
    have k4 : W.cell? ⟨X, 4, none⟩ = some (.slice ((some ⟨g, o + 1, none⟩)) vals.length ((c - 1))) := cl_of GW.out.at4 4
    have hltW := lt_of GW.out.at4
    have kf : W.frozen? ⟨X, 4, none⟩ = false := by unfold World.frozen?; rw [GW.out.at4]; simp
    go_wp2_with (first
      | (at_builtin; first
        | (refine wpList_append_row (by rfl) _ _ 35 (by rfl) 36 i0 (.slice none 0 0) 24 Try.underlying35 hi hz0 hz1 hz2 rfl _ [] (by rfl) (fresh_at _ _) vals _ (by rfl) (PushAt.src1 GW.out hz1) (by unfold maxLen; have h0 : ([] : List Value).length = 0 := rfl; omega) (by have h0 : ([] : List Value).length = 0 := rfl; omega) ?_; intro v' w5 hap; obtain ⟨a5, c5, rfl, q5, n5, b5⟩ := fresh hap; have Q5 := Lib.hid q5; have N5 := Lib.hid n5; have B5 := Lib.hid b5; clear hap q5 n5 b5)
        | (refine wpList_append_row (by rfl) _ _ 36 (by rfl) 5 j0 (.int .u8 0) 1 Try.underlying36 ki kz0 kz1 kz2 rfl _ [] (by rfl) (fresh_at _ _) xs _ (by rfl) (PushAt.src2 GW.out kz1 HX.out HXO.out HO.out B5.out) (by unfold maxLen; have h0 : ([] : List Value).length = 0 := rfl; omega) (by have h0 : ([] : List Value).length = 0 := rfl; omega) ?_; intro v' w6 hap; obtain ⟨a6, c6, rfl, q6, n6, b6⟩ := fresh hap; have Q6 := Lib.hid q6; have N6 := Lib.hid n6; have B6 := Lib.hid b6; clear hap q6 n6 b6)
        | (refine wpList_append_row (by rfl) _ _ 35 (by rfl) 36 i0 (.slice none 0 0) 24 Try.underlying35 hi hz0 hz1 hz2 rfl _ vals (by rfl) (own_on _ Q5.out B6.out) [_] _ (by rfl) (src_one hz1 _ _ _ _) (by unfold maxLen; have h0 : ∀ x : Value, [x].length = 1 := fun _ => rfl; rw [h0]; omega) (by have h0 : ∀ x : Value, [x].length = 1 := fun _ => rfl; rw [h0]; omega) ?_; intro v' w7 hap; obtain ⟨a7, c7, rfl, gf7, ⟨u7, gc7⟩, h7, b7⟩ := PushAt.last GW.out HBO.out HOK.out Q5.out N5.out B5.out Q6.out N6.out B6.out hap; have H7 := Lib.hid h7; have B7 := Lib.hid b7; clear hap h7 b7))
      | go_quiet (fail))
    go_ret
    exact ⟨rfl, H7.out, B7.out⟩
end Go.Proofs.Ytdobileefcidjaa.M
