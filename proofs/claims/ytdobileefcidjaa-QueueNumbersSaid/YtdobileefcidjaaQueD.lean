/-
  drop, Pop, at a queue that is one.
-/
import Derived.Test.YtdobileefcidjaaQueC
import Derived.StillTailTactics
namespace Go.Proofs.Ytdobileefcidjaa.M
open Go.RowKit Go.Shelf
set_option linter.unusedVariables false
set_option linter.unusedSectionVars false
set_option linter.unusedSimpArgs false
attribute [local go_sem ↓] Go.wp_at_zero Go.wp_at_succ
def slOfV : Value → Sl
  | .slice a n c => (a, n, c)
  | _ => (none, 0, 0)
def Slices (vals : List Value) : Prop := ∀ v ∈ vals, ∃ a n c, v = .slice a n c
theorem listed_of {vals : List Value} (h : Slices vals) : listed (vals.map slOfV) = vals := by
  unfold listed
  rw [List.map_map]
  conv => rhs; rw [← List.map_id vals]
  refine List.map_congr_left fun v hv => ?_
  obtain ⟨a, n, c, rfl⟩ := h v hv
  rfl
theorem erase_map {α β : Type} (f : α → β) : ∀ (l : List α) (i : Nat), (l.map f).eraseIdx i = (l.eraseIdx i).map f
  | [], i => by simp
  | x :: l, 0 => by simp
  | x :: l, i + 1 => by simp [erase_map f l i]
theorem erase_at {α : Type} (l : List α) (i j : Nat) : (l.eraseIdx i)[j]? = if j < i then l[j]? else l[j + 1]? := by
  rw [List.getElem?_eraseIdx]
set_option maxHeartbeats 1000000 in
theorem QueueS.drop {w : World} {ok : Nat → Prop} {Q : Nat} {stack : Bool} {val ent : Int} {rows : List (List Value)} (h : QueueS w ok Q stack val ent rows) (j : Nat) (hj : j < rows.length) (hl : rows.length ≤ 1000000) (hok : ∀ b, w.heap.size ≤ b → ok b) :
    Calls Try.prog 29 #[.pointer (some ⟨Q, 0, none⟩), .int .i64 j] w fun e w' => e = nothing ∧ QueueS w' ok Q stack val ent (rows.eraseIdx j) ∧ But [Q] w w' := by
  obtain ⟨hB, a, c, vals, k, nx, h1, hn, h2, h3, h4, h5⟩ := h
  obtain ⟨g, o, rfl⟩ := h2.addr (by omega)
  have hcap : vals.length ≤ c := by
    rcases h2 with ⟨h, _⟩ | ⟨_, _, _, _, h, _, h', _⟩
    · cases h
    · simp only [Value.slice.injEq] at h; obtain ⟨_, _, rfl⟩ := h; exact h'
  have hS : Slices vals := fun v hv => by
    obtain ⟨i, hi⟩ := List.getElem?_of_mem hv
    obtain ⟨r, hr⟩ : ∃ r, rows[i]? = some r := ⟨_, List.getElem?_eq_getElem (by have := (List.getElem?_eq_some_iff.1 hi).1; omega)⟩
    obtain ⟨a', c', e⟩ := (h5 i v r hi hr).1.form
    exact ⟨_, _, _, e⟩
  have hlen : (vals.map slOfV).length = vals.length := List.length_map ..
  have h := callsIn_wide.1 (drop_w 6 (Nat.le_refl _) Q j g o c (vals.map slOfV) w _ _ h1 (by rw [hlen]; rfl) (by rw [hlen]; omega) (by rw [hlen]; exact hcap) (h2.lt rfl) (fun i x hx => by
    rw [List.getElem?_map] at hx
    obtain ⟨v, hv, rfl⟩ := Option.map_eq_some_iff.1 hx
    obtain ⟨a', n', c', rfl⟩ := hS v (List.mem_of_getElem? hv)
    exact h2.cellAt hv))
  refine h.mono ?_
  rintro e w' ⟨rfl, v, hQ', hown, ⟨a', c', rfl⟩, hb⟩
  have hL : ((vals.map slOfV).eraseIdx j) = (vals.eraseIdx j).map slOfV := erase_map _ _ _
  have hS' : Slices (vals.eraseIdx j) := fun v hv => hS v (List.mem_of_mem_eraseIdx hv)
  rw [hL, listed_of hS', List.length_map] at hown
  rw [hL, List.length_map] at hQ'
  have hlow : ∀ b, (Value.slice a' (vals.eraseIdx j).length c').ownBlock = some b → w.heap.size ≤ b := fun b hb => by
    rcases hown.2 with ⟨h, _⟩ | ⟨g', cap', cur', h, hg', _⟩
    · rw [h] at hb; cases hb
    · rw [h] at hb; cases hb; exact hg'
  have hq : OwnQ w' 36 (.slice a' (vals.eraseIdx j).length c') (vals.eraseIdx j) := by
    rcases hown.2 with ⟨h, hn0⟩ | ⟨g', cap', cur', h, hg', hgb, hc', hm', hs', ht'⟩
    · exact .inl ⟨h, List.eq_nil_of_length_eq_zero hn0⟩
    · refine .inr ⟨g', 0, cap', cur', h, hgb, hc', hm', by omega, fun i u hi => ?_⟩
      have := hown.cells (g := g') (by rw [h]; rfl) i u hi
      rw [add_at] at this
      unfold World.cell? at this
      rw [hgb] at this
      simpa using this
  have htag : ∀ {e : TypeId} {v : Value} {xs : List Value}, OwnQ w e v xs → e ≠ 55 → ∀ b, v.ownBlock = some b → b ∉ [Q] := fun hq he b hbv hm => by
    simp only [List.mem_singleton] at hm
    subst hm
    obtain ⟨cur, hg⟩ := hq.tag _ hbv
    rw [h1] at hg
    simp only [Option.some.injEq, Obj.cells.injEq] at hg
    exact he hg.2.1.symm
  refine ⟨rfl, ⟨hB, a', c', vals.eraseIdx j, k, nx, hQ', ?_, hq, by rw [List.length_eraseIdx_of_lt (by omega), List.length_eraseIdx_of_lt hj, h3], fun b hb => hok b (hlow b hb), fun i v r hv hr => ?_⟩, hb⟩
  · rcases hn with h | ⟨hs, B, h, hBB, hokB⟩
    · exact .inl h
    · refine .inr ⟨hs, B, h, hb.heap hBB (fun hm => ?_), hokB⟩
      simp only [List.mem_singleton] at hm
      subst hm
      rw [h1] at hBB
      simp only [Option.some.injEq, Obj.cells.injEq] at hBB
      exact absurd hBB.2.1 (by decide)
  · rw [erase_at] at hv hr
    by_cases hij : i < j
    · rw [if_pos hij] at hv hr
      exact ⟨(h5 i v r hv hr).1.but hb (htag (h5 i v r hv hr).1 (by decide)), (h5 i v r hv hr).2⟩
    · rw [if_neg hij] at hv hr
      exact ⟨(h5 _ v r hv hr).1.but hb (htag (h5 _ v r hv hr).1 (by decide)), (h5 _ v r hv hr).2⟩
theorem QueueS.drop0 {w : World} {ok : Nat → Prop} {Q : Nat} {stack : Bool} {val ent : Int} {rows : List (List Value)} (h : QueueS w ok Q stack val ent rows) (hj : 0 < rows.length) (hl : rows.length ≤ 1000000) (hok : ∀ b, w.heap.size ≤ b → ok b) :
    Calls Try.prog 29 #[.pointer (some ⟨Q, 0, none⟩), .int .i64 0] w fun e w' => e = nothing ∧ QueueS w' ok Q stack val ent (rows.eraseIdx 0) ∧ But [Q] w w' := h.drop 0 hj hl hok
theorem QueueS.popNone {w : World} {ok : Nat → Prop} {Q : Nat} {stack : Bool} {val ent : Int} (h : QueueS w ok Q stack val ent []) : Calls Try.prog 13 #[.pointer (some ⟨Q, 0, none⟩)] w fun e w' => e = .returned (.tuple #[.slice none 0 0, .int .i64 6]) ∧ w = w' := by
  have H := Lib.hid h
  clear h
  go_enter Try.func13, Try.ntmps13
  go_wp2_with (go_at_call 16; refine H.out.peekNone.mono ?_; rintro e w1 ⟨rfl, rfl⟩)
  go_ret2
  exact ⟨rfl, rfl⟩
theorem wp_region_tail9 {P : Program} {id : Nat} {Q : Exit → Act → World → Prop} {a : Act} {w : World} {l : List Oper} (n : Nat) (hm : P.follows .mixedOrders = true) (hB : Region.lexTailB .any l.toArray n = true)
    (h : wpStill P l.toArray w.drew (fun a' => wpList P l.toArray Q (l.drop n) a' w.drew) (l.take n) a) : (Code.region id l.toArray true).wp P Q a w := wp_region_still_tail n hm hB h
theorem nextAt_lt {stack : Bool} {n : Nat} (h : 0 < n) : nextAt stack n < n := by
  unfold nextAt
  split <;> omega
set_option maxRecDepth 100000 in
set_option maxHeartbeats 2000000 in
theorem QueueS.popX {w : World} {ok : Nat → Prop} {Q : Nat} {stack : Bool} {val ent : Int} {rows : List (List Value)} (h : QueueS w ok Q stack val ent rows) (j : Nat) (r : List Value) (hr : rows[nextAt stack rows.length]? = some r) (hj : j = nextAt stack rows.length) (hl : rows.length ≤ 1000000) (hb : ∀ u ∈ r, ∃ n : Int, u = .int .u8 n) (hrl : r.length ≤ 1000000) (hok : ∀ b, w.heap.size ≤ b → ok b) :
    Calls Try.prog 13 #[.pointer (some ⟨Q, 0, none⟩)] w fun e w' => ∃ v, e = .returned (.tuple #[v, .int .i64 0]) ∧ Own w' v r ∧ (∀ k, v.ownBlock = some k → w.heap.size ≤ k) ∧ QueueS w' (fun b => ok b ∧ v.ownBlock ≠ some b) Q stack val ent (rows.eraseIdx j) ∧ But [Q] w w' := by
  have hjr : j < rows.length := by rw [hj]; exact (List.getElem?_eq_some_iff.1 hr).1
  have HP := Lib.hid (h.peek j r hr hj hl hb hrl)
  have hQw : Q < w.heap.size := by
    obtain ⟨_, _, _, _, _, _, h1, _⟩ := h
    exact lt_of h1
  have HQW := Lib.hid hQw
  have H := Lib.hid h
  clear h hr hb
  go_enter Try.func13, Try.ntmps13
  go_wp2_with fail
  refine HP.out.mono ?_
  rintro e w1 ⟨v, rfl, ho1, hn1, hb1⟩
  obtain ⟨av, cv, rfl⟩ := own_form2 ho1
  have hS1 : QueueS w1 (fun b => ok b ∧ (Value.slice av r.length cv).ownBlock ≠ some b) Q stack val ent rows := (H.out.also fun b hb hk => (⟨hk, fun h => by have := hn1 b h; omega⟩ : ok b ∧ (Value.slice av r.length cv).ownBlock ≠ some b)).keep hb1 (by simp)
  have HS1 := Lib.hid hS1
  have HO1 := Lib.hid ho1
  have HN1 := Lib.hid hn1
  have HOK : Hid (∀ b, w1.heap.size ≤ b → ok b ∧ (Value.slice av r.length cv).ownBlock ≠ some b) := Lib.hid fun b hb => ⟨hok b (by have := hb1.size; omega), fun h => by have := ho1.que.lt h; omega⟩
  have HB1 := Lib.hid hb1
  obtain ⟨hB, a, c, vals, k, nx, h1, hn, h2, h3, h4, h5⟩ := hS1
  have c0 : w1.cell? ⟨Q, 0, none⟩ = some (.slice a vals.length c) := cl_of h1 0
  have c5 : w1.cell? ⟨Q, 5, none⟩ = some nx := cl_of h1 5
  have H3 := Lib.hid h3
  rcases hn with ⟨rfl, rfl⟩ | ⟨rfl, B, rfl, hBB, _⟩
  · obtain rfl : j = 0 := hj
    clear h1 h2 h3 h4 h5 ho1 hn1 hb1 hok
    go_wp2_with fail
    have k0 : w1.drew.cell? ⟨Q, 0, none⟩ = some (.slice a vals.length c) := c0
    have k5 : w1.drew.cell? ⟨Q, 5, none⟩ = some (.func (.func 25) #[] #[]) := c5
    refine wp_region_tail9 8 (by kernel_rfl) (by kernel_rfl) ?_
    simp only [List.take_succ_cons, List.take_zero, List.drop_succ_cons, List.drop_zero]
    repeat still_step
    still_call (next1 _)
    repeat still_step
    refine wpStill_nil ?_
    go_wp2_with (go_at_call 29; refine ((HS1.out.keep ((But.refl [] _).drew) (by simp)).drop0 hjr hl (fun b hb => HOK.out b hb)).mono ?_; rintro e w2 ⟨rfl, hS2, hb2⟩; replace hb2 : But [Q] w1 w2 := ((But.refl [Q] w1).drew).trans hb2 (fun x hx => .inl hx); have HS2 := Lib.hid hS2; have HB2 := Lib.hid hb2; clear hS2 hb2)
    go_wp2_with fail
    go_ret2
    refine ⟨_, rfl, HO1.out.but HB2.out (fun b hb hm => ?_), HN1.out, HS2.out, (HB1.out.mono (by simp)).trans HB2.out (fun x hx => .inl hx)⟩
    have := HN1.out b hb
    have := HQW.out
    simp at hm
    omega
  · have hjn : j = vals.length - 1 := by rw [hj, h3]; rfl
    have cB : w1.cell? ⟨B, 0, none⟩ = some (.pointer (some ⟨Q, 0, none⟩)) := cl_of hBB 0
    have HNX : Hid (∀ w' : World, w'.cell? ⟨B, 0, none⟩ = some (.pointer (some ⟨Q, 0, none⟩)) → w'.cell? ⟨Q, 0, none⟩ = some (.slice a vals.length c) → Calls Try.prog 26 #[.pointer (some ⟨B, 0, none⟩)] w' fun e w'' => e = .returned (.int .i64 j) ∧ w'' = w') := Lib.hid fun w' h1' h2' => by
      rw [hjn]
      exact next2 w' B Q _ _ _ h1' h2' (by omega) (by omega)
    clear h1 h2 h3 h4 h5 ho1 hn1 hb1 hok hBB hjn hj
    go_wp2_with fail
    have k0 : w1.drew.cell? ⟨Q, 0, none⟩ = some (.slice a vals.length c) := c0
    have k5 : w1.drew.cell? ⟨Q, 5, none⟩ = some (.func (.func 26) #[] #[.pointer (some ⟨B, 0, none⟩)]) := c5
    refine wp_region_tail9 8 (by kernel_rfl) (by kernel_rfl) ?_
    simp only [List.take_succ_cons, List.take_zero, List.drop_succ_cons, List.drop_zero]
    repeat still_step
    still_call (HNX.out _ cB c0)
    repeat still_step
    refine wpStill_nil ?_
    go_wp2_with (go_at_call 29; refine ((HS1.out.keep ((But.refl [] _).drew) (by simp)).drop j hjr hl (fun b hb => HOK.out b hb)).mono ?_; rintro e w2 ⟨rfl, hS2, hb2⟩; replace hb2 : But [Q] w1 w2 := ((But.refl [Q] w1).drew).trans hb2 (fun x hx => .inl hx); have HS2 := Lib.hid hS2; have HB2 := Lib.hid hb2; clear hS2 hb2)
    go_wp2_with fail
    go_ret2
    refine ⟨_, rfl, HO1.out.but HB2.out (fun b hb hm => ?_), HN1.out, HS2.out, (HB1.out.mono (by simp)).trans HB2.out (fun x hx => .inl hx)⟩
    have := HN1.out b hb
    have := HQW.out
    simp at hm
    omega
theorem QueueS.pop {w : World} {ok : Nat → Prop} {Q : Nat} {stack : Bool} {val ent : Int} {rows : List (List Value)} (h : QueueS w ok Q stack val ent rows) (j : Nat) (r : List Value) (hr : rows[nextAt stack rows.length]? = some r) (hj : j = nextAt stack rows.length) (hl : rows.length ≤ 1000000) (hb : ∀ u ∈ r, ∃ n : Int, u = .int .u8 n) (hrl : r.length ≤ 1000000) (hok : ∀ b, w.heap.size ≤ b → ok b) :
    Calls Try.prog 13 #[.pointer (some ⟨Q, 0, none⟩)] w fun e w' => ∃ v, e = .returned (.tuple #[v, .int .i64 0]) ∧ Own w' v r ∧ (∀ k, v.ownBlock = some k → w.heap.size ≤ k) ∧ QueueS w' ok Q stack val ent (rows.eraseIdx j) ∧ But [Q] w w' := by
  refine (h.popX j r hr hj hl hb hrl hok).mono ?_
  rintro e w' ⟨v, rfl, h1, h2, h3, h4⟩
  exact ⟨v, rfl, h1, h2, h3.also (fun b _ h => h.1), h4⟩
end Go.Proofs.Ytdobileefcidjaa.M
