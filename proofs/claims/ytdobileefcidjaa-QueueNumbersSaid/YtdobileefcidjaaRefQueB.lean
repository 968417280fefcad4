/-
  The reference's queue: Peek, Push, Pop.
-/
import Derived.Test.YtdobileefcidjaaRefQue
import Derived.Deep.RegionLaw
import Derived.Deep.RegionHeld3
namespace Go.Proofs.Ytdobileefcidjaa.M
open Go.RowKit Go.Shelf
set_option linter.unusedVariables false
set_option linter.unusedSectionVars false
set_option linter.unusedSimpArgs false
attribute [local go_sem ↓] Go.wp_at_zero Go.wp_at_succ
theorem refNext {w : World} (stack : Bool) (X : Nat) (a : Option Addr) (n c : Nat) (c0 : w.cell? ⟨X, 0, none⟩ = some (.int .u8 (kindOf stack))) (c4 : w.cell? ⟨X, 4, none⟩ = some (.slice a n c)) (h1 : 1 ≤ n) (h2 : n ≤ 1000000) :
    Calls Try.prog 30 #[.pointer (some ⟨X, 0, none⟩)] w fun e w' => e = .returned (.int .i64 (nextAt stack n : Nat)) ∧ w = w' := by
  cases stack with
  | false =>
    have c0' : w.cell? ⟨X, 0, none⟩ = some (.int .u8 5) := c0
    clear c0
    go_enter Try.func30, Try.ntmps30
    go_wp2_with fail
    go_ret
    exact ⟨rfl, rfl⟩
  | true =>
    have c0' : w.cell? ⟨X, 0, none⟩ = some (.int .u8 6) := c0
    have e : ((nextAt true n : Nat) : Int) = (n : Int) - 1 := by simp only [nextAt, if_true]; omega
    rw [e]
    have h3 : (1 : Int) ≤ n := by omega
    clear c0 e
    go_enter Try.func30, Try.ntmps30
    go_wp2_with fail
    go_ret
    exact ⟨rfl, rfl⟩
theorem RefQ.peekNone {w : World} {ok : Nat → Prop} {X : Nat} {k val ent : Int} (h : RefQ w ok X k val ent []) :
    Calls Try.prog 17 #[.pointer (some ⟨X, 0, none⟩)] w fun e w' => e = .returned (.tuple #[.slice none 0 0, .int .i64 6]) ∧ w = w' := by
  obtain ⟨hB, a, c, vals, h1, h2, h3, h4, h5⟩ := h
  obtain rfl : vals = [] := List.eq_nil_of_length_eq_zero h3
  have c4 : w.cell? ⟨X, 4, none⟩ = some (.slice a 0 c) := cl_of h1 4
  clear h1 h2 h3 h4 h5
  go_enter Try.func17, Try.ntmps17
  go_wp2_with fail
  go_ret2
  exact ⟨rfl, rfl⟩
theorem RefQ.popNone {w : World} {ok : Nat → Prop} {X : Nat} {k val ent : Int} (h : RefQ w ok X k val ent []) :
    Calls Try.prog 14 #[.pointer (some ⟨X, 0, none⟩)] w fun e w' => e = .returned (.tuple #[.slice none 0 0, .int .i64 6]) ∧ w = w' := by
  have H := Lib.hid h
  clear h
  go_enter Try.func14, Try.ntmps14
  go_wp2_with (go_at_call 17; refine H.out.peekNone.mono ?_; rintro e w1 ⟨rfl, rfl⟩)
  go_ret2
  exact ⟨rfl, rfl⟩
set_option maxRecDepth 100000 in
set_option maxHeartbeats 2000000 in
theorem RefQ.peek {w : World} {ok : Nat → Prop} {X : Nat} {stack : Bool} {val ent : Int} {rows : List (List Value)} (h : RefQ w ok X (kindOf stack) val ent rows) (j : Nat) (r : List Value) (hr : rows[j]? = some r) (hj : j = nextAt stack rows.length) (hl : rows.length ≤ 1000000) (hb : ∀ u ∈ r, ∃ n : Int, u = .int .u8 n) (hrl : r.length ≤ 1000000) :
    Calls Try.prog 17 #[.pointer (some ⟨X, 0, none⟩)] w fun e w' => ∃ a c, e = .returned (.tuple #[.slice a r.length c, .int .i64 0]) ∧ OwnQ w' 5 (.slice a r.length c) r ∧ (∀ b, (Value.slice a r.length c).ownBlock = some b → w.heap.size ≤ b) ∧ But [] w w' := by
  obtain ⟨j0, ki, kz0, kz1, kz2⟩ := info_parts (show (Try.prog.info? 5).map (fun i => (i.zero, i.size, i.bytes)) = some (some (.int .u8 0), 1, 1) by kernel_rfl)
  obtain ⟨hB, a, c, vals, h1, h2, h3, h4, h5⟩ := h
  have hjr : j < rows.length := (List.getElem?_eq_some_iff.1 hr).1
  have hjl : j < vals.length := by omega
  obtain ⟨v, hv⟩ : ∃ v, vals[j]? = some v := ⟨_, List.getElem?_eq_getElem hjl⟩
  have hrow := h5 j v r hv hr
  obtain ⟨av, cv, rfl⟩ := hrow.1.form
  obtain ⟨g, o, rfl⟩ := h2.addr (by omega)
  have cc : w.cell? ⟨g, o + j, none⟩ = some (.slice av r.length cv) := h2.cellAt hv
  have c0 : w.cell? ⟨X, 0, none⟩ = some (.int .u8 (kindOf stack)) := cl_of h1 0
  have c4 : w.cell? ⟨X, 4, none⟩ = some (.slice (some ⟨g, o, none⟩) vals.length c) := cl_of h1 4
  have hj0 : (0 : Int) ≤ j := by omega
  have hj1 : (j : Int) < vals.length := by omega
  have hn0 : ((vals.length : Int) == 0) = false := beq_eq_false_iff_ne.2 (by omega)
  have hvl : vals.length ≤ 1000000 := by omega
  have HS : Hid (Src Try.prog j0.size 36 (.slice av r.length cv) r.length r (w.alloc (.cells #[] 5)).drew) := Lib.hid (src_sees Try.underlying36 kz1 (hrow.1.sees.but (((But.refl [] w).alloc _).drew) (by simp)) (IsBytes_one hb))
  have HQ0 : Hid (OwnQ (w.alloc (.cells #[] 5)).drew 5 (.slice (some ⟨w.heap.size, 0, none⟩) 0 0) []) := Lib.hid ((fresh_at w 5).but ((But.refl [] _).drew) (by simp))
  have HNX : Hid (∀ w' : World, w'.cell? ⟨X, 0, none⟩ = some (.int .u8 (kindOf stack)) → w'.cell? ⟨X, 4, none⟩ = some (.slice (some ⟨g, o, none⟩) vals.length c) → Calls Try.prog 30 #[.pointer (some ⟨X, 0, none⟩)] w' fun e w'' => e = .returned (.int .i64 j) ∧ w' = w'') := Lib.hid fun w' h1' h2' => by
    rw [hj, ← h3]
    exact refNext stack X _ _ _ h1' h2' (by omega) hvl
  have HK : Hid (∀ L w', But L w w' → L = [] → w'.cell? ⟨X, 0, none⟩ = some (.int .u8 (kindOf stack)) ∧ w'.cell? ⟨X, 4, none⟩ = some (.slice (some ⟨g, o, none⟩) vals.length c) ∧ w'.cell? ⟨g, o + j, none⟩ = some (.slice av r.length cv)) := Lib.hid fun L w' hb he => by subst he; exact ⟨cell_but hb c0 (by simp), cell_but hb c4 (by simp), cell_but hb cc (by simp)⟩
  have KEY := Lib.hid (fun (v' : Value) (w5 : World) (hap : Appended (w.alloc (.cells #[] 5)).drew w5 5 (.slice (some ⟨w.heap.size, 0, none⟩) 0 0) v' [] r) => freshA (w0 := w) (((But.refl [] w).alloc _).drew) (by show w.heap.size < (w.alloc _).heap.size; rw [size_alloc]; omega) hap)
  clear h1 h2 h3 h4 h5 hr hv hrow hb hj hjl hjr
  go_enter Try.func17, Try.ntmps17
  go_wp2_with fail
  go_region_held3 (fun w' => w'.cell? ⟨X, 0, none⟩ = some (.int .u8 (kindOf stack)) ∧ w'.cell? ⟨X, 4, none⟩ = some (.slice (some ⟨g, o, none⟩) vals.length c) ∧ w'.cell? ⟨g, o + j, none⟩ = some (.slice av r.length cv)) (first | exact HKW | exact (HK.out [] _ (((But.refl [] w).alloc _).drew) rfl) | exact (HK.out [] _ ((But.refl [] w).drew) rfl) | exact (HK.out [] _ (((But.refl [] w).drew).alloc _) rfl) | go_keep) (first
    | (go_at_call 30; refine (HNX.out _ (HK.out [] _ (((But.refl [] w).alloc _).drew) rfl).1 (HK.out [] _ (((But.refl [] w).alloc _).drew) rfl).2.1).mono ?_; rintro e w' ⟨rfl, rfl⟩)
    | (go_at_call 30; refine (HNX.out _ (HK.out [] _ ((But.refl [] w).drew) rfl).1 (HK.out [] _ ((But.refl [] w).drew) rfl).2.1).mono ?_; rintro e w' ⟨rfl, rfl⟩)
    | (refine step_append_row (by rfl) _ _ 36 (by rfl) 5 j0 (.int .u8 0) 1 Try.underlying36 ki kz0 kz1 kz2 rfl _ [] (by rfl) HQ0.out r _ (by rfl) HS.out (by unfold maxLen; have h0 : ([] : List Value).length = 0 := rfl; omega) (by have h0 : ([] : List Value).length = 0 := rfl; omega) ?_; intro v' w5 hap; obtain ⟨a5, c5, rfl, ho5, hn5, hb5⟩ := KEY.out _ _ hap; have hbb : But [] w w5 := hb5; have HKW := HK.out _ _ hbb rfl; have HO5 := Lib.hid ho5; have HN5 := Lib.hid hn5; have HB5 := Lib.hid hbb; clear hap ho5 hn5 hb5 hbb))
  all_goals
    go_wp2_with fail
    go_ret2
    exact ⟨_, _, rfl, HO5.out, HN5.out, HB5.out⟩
end Go.Proofs.Ytdobileefcidjaa.M
