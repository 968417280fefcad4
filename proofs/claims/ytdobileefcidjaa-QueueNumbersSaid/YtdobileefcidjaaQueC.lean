/-
  Peek, at a queue that is one.
-/
import Derived.Test.YtdobileefcidjaaQueB
namespace Go.Proofs.Ytdobileefcidjaa.M
open Go.RowKit Go.Shelf
set_option linter.unusedVariables false
set_option linter.unusedSectionVars false
set_option linter.unusedSimpArgs false
attribute [local go_sem ↓] Go.wp_at_zero Go.wp_at_succ
theorem QueueS.peekNone {w : World} {ok : Nat → Prop} {Q : Nat} {stack : Bool} {val ent : Int} (h : QueueS w ok Q stack val ent []) : Calls Try.prog 16 #[.pointer (some ⟨Q, 0, none⟩)] w fun e w' => e = .returned (.tuple #[.slice none 0 0, .int .i64 6]) ∧ w = w' := by
  have hk := Lib.hid h.known
  obtain ⟨hB, a, c, vals, k, nx, h1, hn, h2, h3, h4, h5⟩ := h
  obtain rfl : vals = [] := List.eq_nil_of_length_eq_zero h3
  have c0 : w.cell? ⟨Q, 0, none⟩ = some (.slice a 0 c) := cl_of h1 0
  clear h1 hn h2 h3 h4 h5
  go_enter Try.func16, Try.ntmps16
  go_wp2_with (go_at_call 31; refine hk.out.mono ?_; rintro e w1 ⟨rfl, rfl⟩)
  go_ret2
  exact ⟨rfl, rfl⟩
theorem own_form2 {w : World} {v : Value} {xs : List Value} (h : Own w v xs) : ∃ a c, v = .slice a xs.length c := by
  rcases h.2 with ⟨rfl, hn⟩ | ⟨g, cap, cur, rfl, _⟩
  · exact ⟨none, 0, by rw [hn]⟩
  · exact ⟨_, _, rfl⟩
theorem IsBytes_one {xs : List Value} (h : ∀ u ∈ xs, ∃ n : Int, u = .int .u8 n) : ∀ u ∈ xs, u.oneCell' = true := fun u hu => by obtain ⟨n, rfl⟩ := h u hu; rfl
set_option maxRecDepth 100000 in
set_option maxHeartbeats 2000000 in
theorem QueueS.peek {w : World} {ok : Nat → Prop} {Q : Nat} {stack : Bool} {val ent : Int} {rows : List (List Value)} (h : QueueS w ok Q stack val ent rows) (j : Nat) (r : List Value) (hr : rows[nextAt stack rows.length]? = some r) (hj : j = nextAt stack rows.length) (hl : rows.length ≤ 1000000) (hb : ∀ u ∈ r, ∃ n : Int, u = .int .u8 n) (hrl : r.length ≤ 1000000) :
    Calls Try.prog 16 #[.pointer (some ⟨Q, 0, none⟩)] w fun e w' => ∃ v, e = .returned (.tuple #[v, .int .i64 0]) ∧ Own w' v r ∧ (∀ k, v.ownBlock = some k → w.heap.size ≤ k) ∧ But [] w w' := by
  have hk := Lib.hid h.known
  obtain ⟨hB, a, c, vals, k, nx, h1, hn, h2, h3, h4, h5⟩ := h
  have hjl : j < vals.length := by have := (List.getElem?_eq_some_iff.1 hr).1; omega
  obtain ⟨v, hv⟩ : ∃ v, vals[j]? = some v := ⟨_, List.getElem?_eq_getElem hjl⟩
  have hrow := h5 j v r hv (by rw [hj]; exact hr)
  obtain ⟨av, cv, rfl⟩ := hrow.1.form
  obtain ⟨g, o, rfl⟩ := h2.addr (by omega)
  have cc : w.cell? ⟨g, o + j, none⟩ = some (.slice av r.length cv) := h2.cellAt hv
  have c0 : w.cell? ⟨Q, 0, none⟩ = some (.slice (some ⟨g, o, none⟩) vals.length c) := cl_of h1 0
  have c5 : w.cell? ⟨Q, 5, none⟩ = some nx := cl_of h1 5
  have hj0 : (0 : Int) ≤ j := by omega
  have hj1 : (j : Int) < vals.length := by omega
  have hn0 : ((vals.length : Int) == 0) = false := beq_eq_false_iff_ne.2 (by omega)
  have hvl : vals.length ≤ 1000000 := by omega
  have HS := Lib.hid hrow.1.sees
  have HO := Lib.hid (IsBytes_one hb)
  have hcap : vals.length ≤ c := by
    rcases h2 with ⟨h, _⟩ | ⟨_, _, _, _, h, _, h', _⟩
    · cases h
    · simp only [Value.slice.injEq] at h; obtain ⟨_, _, rfl⟩ := h; exact h'
  rcases hn with ⟨rfl, rfl⟩ | ⟨rfl, B, rfl, hBB, _⟩
  · obtain rfl : j = 0 := hj
    have c50 : w.cell? ⟨g, o, none⟩ = some (.slice av r.length cv) := cc
    clear h1 h2 h3 h4 h5 hr hv hrow hb cc hj0 hj1
    go_enter Try.func16, Try.ntmps16
    go_wp2_with (go_at_call 31; refine hk.out.mono ?_; rintro e w1 ⟨rfl, rfl⟩)
    go_region_held3 (fun w' => w'.cell? ⟨Q, 0, none⟩ = some (.slice (some ⟨g, o, none⟩) vals.length c) ∧ w'.cell? ⟨Q, 5, none⟩ = some (.func (.func 25) #[] #[]) ∧ w'.cell? ⟨g, o, none⟩ = some (.slice av r.length cv)) (go_keep)
      (first | (go_at_call 25; refine (next1 _).mono ?_; rintro e w' ⟨rfl, rfl⟩) | (go_at_call 32; refine (clone _ r _ (HS.out.but ((But.refl [] _).drew) (by simp)) HO.out (by omega)).mono ?_; rintro e w2 ⟨v2, rfl, ho2, hn2, hb2⟩; replace hb2 : But [] w w2 := ((But.refl [] w).drew).trans hb2 (by simp); obtain ⟨av2, cv2, hf2⟩ := own_form2 ho2; subst hf2; have HO2 := Lib.hid ho2; have HN2 := Lib.hid hn2; have HB2 := Lib.hid hb2; have k0 := cell_but hb2 c0 (by simp); have k5 := cell_but hb2 c5 (by simp); have kg := cell_but hb2 c50 (by simp); clear ho2 hn2 hb2))
    go_wp2_with fail
    go_ret2
    exact ⟨_, rfl, HO2.out, HN2.out, HB2.out⟩
  · have hjn : j = vals.length - 1 := by rw [hj, h3]; rfl
    have cB : w.cell? ⟨B, 0, none⟩ = some (.pointer (some ⟨Q, 0, none⟩)) := cl_of hBB 0
    have hv1 : 1 ≤ vals.length := by omega
    have HNX : Hid (∀ w' : World, w'.cell? ⟨B, 0, none⟩ = some (.pointer (some ⟨Q, 0, none⟩)) → w'.cell? ⟨Q, 0, none⟩ = some (.slice (some ⟨g, o, none⟩) vals.length c) → Calls Try.prog 26 #[.pointer (some ⟨B, 0, none⟩)] w' fun e w'' => e = .returned (.int .i64 j) ∧ w'' = w') := Lib.hid fun w' h1' h2' => by
      rw [hjn]
      exact next2 w' B Q _ _ _ h1' h2' hv1 hvl
    clear h1 h2 h3 h4 h5 hr hj hv hrow hb hBB hjn
    go_enter Try.func16, Try.ntmps16
    go_wp2_with (go_at_call 31; refine hk.out.mono ?_; rintro e w1 ⟨rfl, rfl⟩)
    go_region_held3 (fun w' => w'.cell? ⟨Q, 0, none⟩ = some (.slice (some ⟨g, o, none⟩) vals.length c) ∧ w'.cell? ⟨Q, 5, none⟩ = some (.func (.func 26) #[] #[.pointer (some ⟨B, 0, none⟩)]) ∧ w'.cell? ⟨g, o + j, none⟩ = some (.slice av r.length cv) ∧ w'.cell? ⟨B, 0, none⟩ = some (.pointer (some ⟨Q, 0, none⟩))) (go_keep)
      (first | (go_at_call 26; refine (HNX.out _ (by simpa using cB) (by simpa using c0)).mono ?_; rintro e w' ⟨rfl, rfl⟩) | (go_at_call 32; refine (clone _ r _ (HS.out.but ((But.refl [] _).drew) (by simp)) HO.out (by omega)).mono ?_; rintro e w2 ⟨v2, rfl, ho2, hn2, hb2⟩; replace hb2 : But [] w w2 := ((But.refl [] w).drew).trans hb2 (by simp); obtain ⟨av2, cv2, hf2⟩ := own_form2 ho2; subst hf2; have HO2 := Lib.hid ho2; have HN2 := Lib.hid hn2; have HB2 := Lib.hid hb2; have k0 := cell_but hb2 c0 (by simp); have k5 := cell_but hb2 c5 (by simp); have kg := cell_but hb2 cc (by simp); have kb := cell_but hb2 cB (by simp); clear ho2 hn2 hb2))
    go_wp2_with fail
    go_ret2
    exact ⟨_, rfl, HO2.out, HN2.out, HB2.out⟩
end Go.Proofs.Ytdobileefcidjaa.M
