/-
  The reference's queue: Pop.
-/
import Derived.Test.YtdobileefcidjaaRefQueC
namespace Go.Proofs.Ytdobileefcidjaa.M
open Go.RowKit Go.Shelf
set_option linter.unusedVariables false
set_option linter.unusedSectionVars false
set_option linter.unusedSimpArgs false
attribute [local go_sem ↓] Go.wp_at_zero Go.wp_at_succ
/-- What lies behind a place. -/
theorem OwnQ.dropk {w : World} {e : TypeId} {g o cap k : Nat} {xs : List Value} (h : OwnQ w e (.slice (some ⟨g, o, none⟩) xs.length cap) xs) (hk : k ≤ xs.length) (hc : k < cap) : OwnQ w e (.slice (some ⟨g, o + k, none⟩) (xs.length - k) (cap - k)) (xs.drop k) := by
  rcases h with ⟨h, _⟩ | ⟨g', o', cap', cur, h, hg, hc', hm, hs, hx⟩
  · cases h
  · simp only [Value.slice.injEq, Option.some.injEq, Addr.mk.injEq] at h
    obtain ⟨⟨rfl, rfl, _⟩, _, rfl⟩ := h
    refine .inr ⟨g, o + k, cap - k, cur, by rw [List.length_drop], hg, by rw [List.length_drop]; omega, by omega, by omega, fun j u hj => ?_⟩
    rw [List.getElem?_drop] at hj
    rw [← hx (k + j) u hj]
    congr 1
    omega
theorem OwnQ.dropall {w : World} {e : TypeId} {g o cap k : Nat} {xs : List Value} (h : OwnQ w e (.slice (some ⟨g, o, none⟩) xs.length cap) xs) (hk : k = xs.length) : OwnQ w e (.slice (some ⟨g, o, none⟩) 0 0) (xs.drop k) := by
  rcases h with ⟨h, _⟩ | ⟨g', o', cap', cur, h, hg, hc', hm, hs, hx⟩
  · cases h
  · simp only [Value.slice.injEq, Option.some.injEq, Addr.mk.injEq] at h
    obtain ⟨⟨rfl, rfl, _⟩, _, rfl⟩ := h
    have e0 : xs.drop k = [] := by rw [hk]; simp
    rw [e0]
    exact .inr ⟨g, o, 0, cur, rfl, hg, by simp, by omega, by omega, fun j u hj => by simp at hj⟩
/-- Behind the two appends of a Pop. -/
theorem RefQ.shrunk {w w1 w5 w7 : World} {ok : Nat → Prop} {X : Nat} {k val ent : Int} {rows : List (List Value)} {sl v' : Value} {vals L1 L2 : List Value} {j : Nat} {a1 : Option Addr} {c1 : Nat} (h1 : w.heap[X]? = some (.cells #[.int .u8 k, .int .i64 0, .int .i64 val, .int .i64 ent, sl] 49)) (hB : ok X) (hok : ∀ b, w.heap.size ≤ b → ok b) (hlen : vals.length = rows.length) (hj : j < vals.length)
    (hrows : ∀ (j : Nat) (v : Value) (r : List Value), vals[j]? = some v → rows[j]? = some r → OwnQ w 5 v r ∧ ∀ b, v.ownBlock = some b → ok b) (e1 : L1 = vals.take j) (e2 : L2 = vals.drop (j + 1)) (hb1 : But [] w w1)
    (q5 : OwnQ w5 36 (.slice a1 L1.length c1) L1) (n5 : ∀ b, (Value.slice a1 L1.length c1).ownBlock = some b → w1.heap.size ≤ b) (b5 : But [] w1 w5)
    (hap : Appended w5 w7 36 (.slice a1 L1.length c1) v' L1 L2) :
    ∃ a3 c3, v' = .slice a3 (L1.length + L2.length) c3 ∧ w7.frozen? ⟨X, 4, none⟩ = false ∧ (∃ u, w7.cell? ⟨X, 4, none⟩ = some u) ∧ RefQ (w7.setCell ⟨X, 4, none⟩ (.slice a3 (L1.length + L2.length) c3)) ok X k val ent (rows.eraseIdx j) ∧ But [X] w1 (w7.setCell ⟨X, 4, none⟩ (.slice a3 (L1.length + L2.length) c3)) ∧ But [] w1 w7 := by
  obtain ⟨hq, hc⟩ := hap
  obtain ⟨a3, c3, e⟩ := hq.form
  have hl : (L1 ++ L2).length = L1.length + L2.length := List.length_append
  rw [hl] at e
  subst e
  have h1' := hb1.heap h1 (by simp)
  have bW7 : But [] w1 w7 := by
    rcases hc with ⟨_, _, _, _, _, hb⟩ | ⟨_, hb⟩
    · exact b5.trans hb (fun x hx => .inr (n5 x (by simpa using hx)))
    · exact b5.trans hb (by simp)
  have hlow : ∀ b, (Value.slice a3 (L1 ++ L2).length c3).ownBlock = some b → ok b := fun b hb => by
    rw [hl] at hb
    rcases hc with ⟨a0, cap, e1, e2, _, _⟩ | ⟨hn, _⟩
    · refine hok b (Nat.le_trans hb1.size (n5 b ?_))
      rw [e1]
      rw [e2] at hb
      exact (own_addr _ _ _ _ _).trans hb
    · rw [hn] at hb
      cases hb
      exact hok _ (Nat.le_trans hb1.size b5.size)
  have he : L1 ++ L2 = vals.eraseIdx j := by rw [e1, e2, List.eraseIdx_eq_take_drop_succ]
  have h := RefQ.store (rows' := rows.eraseIdx j) hB h1' bW7 (a3 := a3) (c3 := c3) (vals := L1 ++ L2) (by rw [hl]; exact hq) hlow (by rw [he, List.length_eraseIdx_of_lt hj, List.length_eraseIdx_of_lt (by omega), hlen]) (fun i u r hu hr => by
    rw [he, erase_at] at hu
    rw [erase_at] at hr
    by_cases hij : i < j
    · rw [if_pos hij] at hu hr
      exact ⟨((hrows i u r hu hr).1.but hb1 (by simp)).but bW7 (by simp), (hrows i u r hu hr).2⟩
    · rw [if_neg hij] at hu hr
      exact ⟨((hrows _ u r hu hr).1.but hb1 (by simp)).but bW7 (by simp), (hrows _ u r hu hr).2⟩)
  rw [hl] at h
  exact ⟨a3, c3, rfl, h.1, h.2.1, h.2.2.1, h.2.2.2, bW7⟩
set_option maxRecDepth 100000 in
set_option maxHeartbeats 4000000 in
theorem RefQ.pop {w : World} {ok : Nat → Prop} {X : Nat} {stack : Bool} {val ent : Int} {rows : List (List Value)} (h : RefQ w ok X (kindOf stack) val ent rows) (j : Nat) (r : List Value) (hr : rows[j]? = some r) (hj : j = nextAt stack rows.length) (hl : rows.length ≤ 1000000) (hb : ∀ u ∈ r, ∃ n : Int, u = .int .u8 n) (hrl : r.length ≤ 1000000) (hok : ∀ b, w.heap.size ≤ b → ok b) :
    Calls Try.prog 14 #[.pointer (some ⟨X, 0, none⟩)] w fun e w' => ∃ a c, e = .returned (.tuple #[.slice a r.length c, .int .i64 0]) ∧ OwnQ w' 5 (.slice a r.length c) r ∧ (∀ b, (Value.slice a r.length c).ownBlock = some b → w.heap.size ≤ b) ∧ RefQ w' ok X (kindOf stack) val ent (rows.eraseIdx j) ∧ But [X] w w' := by
  obtain ⟨i0, hi, hz0, hz1, hz2⟩ := info_parts (show (Try.prog.info? 36).map (fun i => (i.zero, i.size, i.bytes)) = some (some (.slice none 0 0), 1, 24) by kernel_rfl)
  have HP := Lib.hid (h.peek j r hr hj hl hb hrl)
  obtain ⟨hB, a, c, vals, h1, h2, h3, h4, h5⟩ := h
  have hjr : j < rows.length := (List.getElem?_eq_some_iff.1 hr).1
  have hjl : j < vals.length := by omega
  obtain ⟨g, o, rfl⟩ := h2.addr (by omega)
  have hcap : vals.length ≤ c := by
    rcases h2 with ⟨h, _⟩ | ⟨g', o', cap', cur, he', hg, hc, _⟩
    · cases h
    · simp only [Value.slice.injEq] at he'
      obtain ⟨_, _, rfl⟩ := he'
      exact hc
  have hltw := lt_of h1
  have c0 : w.cell? ⟨X, 0, none⟩ = some (.int .u8 (kindOf stack)) := cl_of h1 0
  obtain ⟨L1, e1⟩ : ∃ L1, L1 = vals.take j := ⟨_, rfl⟩
  obtain ⟨L2, e2⟩ : ∃ L2, L2 = vals.drop (j + 1) := ⟨_, rfl⟩
  have l1 : L1.length = j := by rw [e1, List.length_take]; omega
  have l2 : L2.length = vals.length - (j + 1) := by rw [e2, List.length_drop]
  have hone : ∀ u ∈ vals, u.oneCell' = true := fun u hu => by
    obtain ⟨i, hi⟩ := List.getElem?_of_mem hu
    obtain ⟨r, hr⟩ : ∃ r, rows[i]? = some r := ⟨_, List.getElem?_eq_getElem (by have := (List.getElem?_eq_some_iff.1 hi).1; omega)⟩
    obtain ⟨a', c', rfl⟩ := (h5 i u r hi hr).1.form
    rfl
  have HNX : Hid (∀ w' : World, w'.cell? ⟨X, 0, none⟩ = some (.int .u8 (kindOf stack)) → w'.cell? ⟨X, 4, none⟩ = some (.slice (some ⟨g, o, none⟩) vals.length c) → Calls Try.prog 30 #[.pointer (some ⟨X, 0, none⟩)] w' fun e w'' => e = .returned (.int .i64 j) ∧ w' = w'') := Lib.hid fun w' h1' h2' => by
    rw [hj, ← h3]
    exact refNext stack X _ _ _ h1' h2' (by omega) (by omega)
  have S1 : Hid (∀ w' : World, But [] w w' → Src Try.prog i0.size 35 (.slice (some ⟨g, o, none⟩) j c) L1.length L1 w') := Lib.hid fun w' hb => by
    have hp := (h2.pre (p := j) (by omega)).but hb (by simp)
    rw [← e1] at hp
    exact src_sees Try.underlying35 hz1 hp.sees (fun u hu => hone u (by rw [e1] at hu; exact List.mem_of_mem_take hu))
  have KEY := Lib.hid (fun (w1 w5 w7 : World) (v' : Value) (a5 : Option Addr) (c5 : Nat) (hb1 : But [] w w1) (q5 : OwnQ w5 36 (.slice a5 L1.length c5) L1) (n5 : ∀ b, (Value.slice a5 L1.length c5).ownBlock = some b → w1.heap.size ≤ b) (b5 : But [] w1 w5) (hap : Appended w5 w7 36 (.slice a5 L1.length c5) v' L1 L2) => RefQ.shrunk h1 hB hok h3 hjl h5 e1 e2 hb1 q5 n5 b5 hap)
  have HX0 := Lib.hid h1
  have hj0 : (0 : Int) ≤ j := by omega
  obtain ⟨q, hq⟩ : ∃ q, q = j + 1 := ⟨_, rfl⟩
  have hw : IntKind.i64.wrap ((j : Int) + 1) = (q : Int) := by rw [hq]; exact IntWalk.i64_in _ (by omega)
  rw [← hq] at e2 l2
  by_cases hc1 : q < c
  · have S2 : Hid (∀ w' : World, But [] w w' → Src Try.prog i0.size 35 (.slice (some ⟨g, o + q, none⟩) L2.length (c - q)) L2.length L2 w') := Lib.hid fun w' hb => by
      have hp := (h2.dropk (k := q) (by omega) hc1).but hb (by simp)
      rw [← e2, ← l2] at hp
      exact src_sees Try.underlying35 hz1 hp.sees (fun u hu => hone u (by rw [e2] at hu; exact List.mem_of_mem_drop hu))
    obtain ⟨m, hm⟩ : ∃ m, m = L2.length := ⟨_, rfl⟩
    have hvl : vals.length = q + m := by omega
    have c4 : w.cell? ⟨X, 4, none⟩ = some (.slice (some ⟨g, o, none⟩) (q + m) c) := by rw [← hvl]; exact cl_of h1 4
    rw [hvl] at HNX
    have hmc : q + m ≤ c := by omega
    have hjc : j ≤ c := by omega
    have hqc : q ≤ c := by omega
    have hqc3 : ¬ c = q := by omega
    have hjc2 : (j : Int) ≤ c := by omega
    have hm1 : m ≤ 1000000 := by omega
    have hj1 : j ≤ 1000000 := by omega
    have HM := Lib.hid hm
    have hq0 : (0 : Int) ≤ q := by omega
    have hq1 : (q : Int) ≤ (q : Int) + (m : Int) := by omega
    have HQQ := Lib.hid hq
    clear hq
    have HL1 := Lib.hid l1
    rw [← hm] at S2
    clear h1 h2 h3 h4 h5 hB hj hr hb hok hone hjr hjl e1 e2 l1 l2 hvl hcap hm hl
    go_enter Try.func14, Try.ntmps14
    go_wp2_with fail
    refine HP.out.mono ?_
    rintro e w1 ⟨av, cv, rfl, ho1, hn1, hb1⟩
    have HO1 := Lib.hid ho1
    have HN1 := Lib.hid hn1
    have HB1 := Lib.hid hb1
    have k0 : w1.cell? ⟨X, 0, none⟩ = some (.int .u8 (kindOf stack)) := cell_but hb1 c0 (by simp)
    have k4 : w1.cell? ⟨X, 4, none⟩ = some (.slice (some ⟨g, o, none⟩) (q + m) c) := cell_but hb1 c4 (by simp)
    have hltX : X < w1.heap.size := cell_lt k4
    have HQ0 : Hid (OwnQ (w1.alloc (.cells #[] 36)).drew 36 (.slice (some ⟨w1.heap.size, 0, none⟩) 0 0) []) := Lib.hid ((fresh_at w1 36).but ((But.refl [] _).drew) (by simp))
    have HS1 : Hid (Src Try.prog i0.size 35 (.slice (some ⟨g, o, none⟩) j c) L1.length L1 (w1.alloc (.cells #[] 36)).drew) := Lib.hid (S1.out _ ((HB1.out.alloc _).drew))
    have HS2 : Hid (∀ w5 : World, But [] w1 w5 → Src Try.prog i0.size 35 (.slice (some ⟨g, o + q, none⟩) m (c - q)) L2.length L2 w5) := Lib.hid fun w5 hb => by rw [← HM.out]; exact S2.out _ (HB1.out.trans hb (by simp))
    have KEY1 := Lib.hid (fun (v' : Value) (w5 : World) (hap : Appended (w1.alloc (.cells #[] 36)).drew w5 36 (.slice (some ⟨w1.heap.size, 0, none⟩) 0 0) v' [] L1) => freshA (w0 := w1) (((But.refl [] w1).alloc _).drew) (by show w1.heap.size < (w1.alloc _).heap.size; rw [size_alloc]; omega) hap)
    have KEY2 := Lib.hid (fun (w5 w7 : World) (v' : Value) (a5 : Option Addr) (c5 : Nat) (q5 : OwnQ w5 36 (.slice a5 L1.length c5) L1) (n5 : ∀ b, (Value.slice a5 L1.length c5).ownBlock = some b → w1.heap.size ≤ b) (b5 : But [] w1 w5) (hap : Appended w5 w7 36 (.slice a5 L1.length c5) v' L1 L2) => KEY.out w1 w5 w7 v' a5 c5 HB1.out q5 n5 b5 hap)
    have HOX : Hid (∀ w' : World, But [X] w1 w' → OwnQ w' 5 (.slice av r.length cv) r) := Lib.hid fun w' hb => HO1.out.but hb (fun b hb' hm => by
      simp only [List.mem_singleton] at hm
      subst hm
      obtain ⟨cur, hg⟩ := HO1.out.tag _ hb'
      rw [HB1.out.heap HX0.out (by simp)] at hg
      simp only [Option.some.injEq, Obj.cells.injEq] at hg
      exact absurd hg.2.1 (by decide))
    clear ho1 hn1 hb1
    go_wp2_with fail
    refine (HNX.out w1 k0 k4).mono ?_
    rintro e w2 ⟨rfl, rfl⟩
    go_wp2_with fail
    go_region_law (first
      | (refine step_append_row (by rfl) _ _ 35 (by rfl) 36 i0 (.slice none 0 0) 24 Try.underlying35 hi hz0 hz1 hz2 rfl _ [] (by rfl) HQ0.out L1 _ (by rfl) HS1.out (by rw [HL1.out]; unfold maxLen; have h0 : ([] : List Value).length = 0 := rfl; omega) (by rw [HL1.out]; have h0 : ([] : List Value).length = 0 := rfl; omega) ?_; intro v' w5 hap; obtain ⟨a5, c5, rfl, q5, n5, b5⟩ := KEY1.out _ _ hap; have k45 := cell_but b5 k4 (by simp); have Q5 := Lib.hid q5; have N5 := Lib.hid n5; have B5 := Lib.hid b5; clear hap q5 n5 b5)
      | (refine step_append_row (by rfl) _ _ 35 (by rfl) 36 i0 (.slice none 0 0) 24 Try.underlying35 hi hz0 hz1 hz2 rfl _ L1 (by rfl) Q5.out L2 _ (by rfl) (HS2.out _ B5.out) (by rw [HL1.out, ← HM.out]; unfold maxLen; omega) (by rw [HL1.out, ← HM.out]; omega) ?_; intro v' w7 hap; obtain ⟨a7, c7, rfl, gf7, ⟨u7, gc7⟩, h7, b7, b77⟩ := KEY2.out _ _ _ _ _ Q5.out N5.out B5.out hap; have H7 := Lib.hid h7; have B7 := Lib.hid b7; clear hap h7 b7 b77))
    all_goals
      go_wp2_with fail
      go_ret2
      exact ⟨_, _, rfl, HOX.out _ B7.out, HN1.out, H7.out, (HB1.out.mono (by simp)).trans B7.out (fun x hx => .inl hx)⟩
  · obtain rfl : c = q := by omega
    have hvl : vals.length = c := by omega
    have S2 : Hid (∀ w' : World, But [] w w' → Src Try.prog i0.size 35 (.slice (some ⟨g, o, none⟩) 0 0) L2.length L2 w') := Lib.hid fun w' hb => by
      have hp := (h2.dropall (k := c) hvl.symm).but hb (by simp)
      rw [← e2] at hp
      have l0 : L2.length = 0 := by omega
      have := src_sees (P := Try.prog) (size := i0.size) Try.underlying35 hz1 hp.sees (fun u hu => hone u (by rw [e2] at hu; exact List.mem_of_mem_drop hu))
      exact this
    have c4 : w.cell? ⟨X, 4, none⟩ = some (.slice (some ⟨g, o, none⟩) c c) := by rw [← hvl]; rw [hvl]; have := cl_of h1 4; rw [hvl] at this; exact this
    rw [hvl] at HNX
    have hjc : j ≤ c := by omega
    have hjc2 : (j : Int) ≤ c := by omega
    have hj1 : j ≤ 1000000 := by omega
    have HM : Hid (0 = L2.length) := Lib.hid (by omega)
    have hq0 : (0 : Int) ≤ c := by omega
    have HQQ := Lib.hid hq
    have HL1 := Lib.hid l1
    clear hq
    clear h1 h2 h3 h4 h5 hB hj hr hb hok hone hjr hjl e1 e2 l1 l2 hvl hcap hl hc1
    go_enter Try.func14, Try.ntmps14
    go_wp2_with fail
    refine HP.out.mono ?_
    rintro e w1 ⟨av, cv, rfl, ho1, hn1, hb1⟩
    have HO1 := Lib.hid ho1
    have HN1 := Lib.hid hn1
    have HB1 := Lib.hid hb1
    have k0 : w1.cell? ⟨X, 0, none⟩ = some (.int .u8 (kindOf stack)) := cell_but hb1 c0 (by simp)
    have k4 : w1.cell? ⟨X, 4, none⟩ = some (.slice (some ⟨g, o, none⟩) c c) := cell_but hb1 c4 (by simp)
    have hltX : X < w1.heap.size := cell_lt k4
    have HQ0 : Hid (OwnQ (w1.alloc (.cells #[] 36)).drew 36 (.slice (some ⟨w1.heap.size, 0, none⟩) 0 0) []) := Lib.hid ((fresh_at w1 36).but ((But.refl [] _).drew) (by simp))
    have HS1 : Hid (Src Try.prog i0.size 35 (.slice (some ⟨g, o, none⟩) j c) L1.length L1 (w1.alloc (.cells #[] 36)).drew) := Lib.hid (S1.out _ ((HB1.out.alloc _).drew))
    have HS2 : Hid (∀ w5 : World, But [] w1 w5 → Src Try.prog i0.size 35 (.slice (some ⟨g, o, none⟩) 0 0) L2.length L2 w5) := Lib.hid fun w5 hb => S2.out _ (HB1.out.trans hb (by simp))
    have KEY1 := Lib.hid (fun (v' : Value) (w5 : World) (hap : Appended (w1.alloc (.cells #[] 36)).drew w5 36 (.slice (some ⟨w1.heap.size, 0, none⟩) 0 0) v' [] L1) => freshA (w0 := w1) (((But.refl [] w1).alloc _).drew) (by show w1.heap.size < (w1.alloc _).heap.size; rw [size_alloc]; omega) hap)
    have KEY2 := Lib.hid (fun (w5 w7 : World) (v' : Value) (a5 : Option Addr) (c5 : Nat) (q5 : OwnQ w5 36 (.slice a5 L1.length c5) L1) (n5 : ∀ b, (Value.slice a5 L1.length c5).ownBlock = some b → w1.heap.size ≤ b) (b5 : But [] w1 w5) (hap : Appended w5 w7 36 (.slice a5 L1.length c5) v' L1 L2) => KEY.out w1 w5 w7 v' a5 c5 HB1.out q5 n5 b5 hap)
    have HOX : Hid (∀ w' : World, But [X] w1 w' → OwnQ w' 5 (.slice av r.length cv) r) := Lib.hid fun w' hb => HO1.out.but hb (fun b hb' hm => by
      simp only [List.mem_singleton] at hm
      subst hm
      obtain ⟨cur, hg⟩ := HO1.out.tag _ hb'
      rw [HB1.out.heap HX0.out (by simp)] at hg
      simp only [Option.some.injEq, Obj.cells.injEq] at hg
      exact absurd hg.2.1 (by decide))
    clear ho1 hn1 hb1
    go_wp2_with fail
    refine (HNX.out w1 k0 k4).mono ?_
    rintro e w2 ⟨rfl, rfl⟩
    go_wp2_with fail
    go_region_law (first
      | (refine step_append_row (by rfl) _ _ 35 (by rfl) 36 i0 (.slice none 0 0) 24 Try.underlying35 hi hz0 hz1 hz2 rfl _ [] (by rfl) HQ0.out L1 _ (by rfl) HS1.out (by rw [HL1.out]; unfold maxLen; have h0 : ([] : List Value).length = 0 := rfl; omega) (by rw [HL1.out]; have h0 : ([] : List Value).length = 0 := rfl; omega) ?_; intro v' w5 hap; obtain ⟨a5, c5, rfl, q5, n5, b5⟩ := KEY1.out _ _ hap; have k45 := cell_but b5 k4 (by simp); have Q5 := Lib.hid q5; have N5 := Lib.hid n5; have B5 := Lib.hid b5; clear hap q5 n5 b5)
      | (refine step_append_row (by rfl) _ _ 35 (by rfl) 36 i0 (.slice none 0 0) 24 Try.underlying35 hi hz0 hz1 hz2 rfl _ L1 (by rfl) Q5.out L2 _ (by rfl) (HS2.out _ B5.out) (by rw [HL1.out, ← HM.out]; unfold maxLen; omega) (by rw [HL1.out, ← HM.out]; omega) ?_; intro v' w7 hap; obtain ⟨a7, c7, rfl, gf7, ⟨u7, gc7⟩, h7, b7, b77⟩ := KEY2.out _ _ _ _ _ Q5.out N5.out B5.out hap; have H7 := Lib.hid h7; have B7 := Lib.hid b7; clear hap h7 b7 b77))
    all_goals
      go_wp2_with fail
      go_ret2
      exact ⟨_, _, rfl, HOX.out _ B7.out, HN1.out, H7.out, (HB1.out.mono (by simp)).trans B7.out (fun x hx => .inl hx)⟩
end Go.Proofs.Ytdobileefcidjaa.M
