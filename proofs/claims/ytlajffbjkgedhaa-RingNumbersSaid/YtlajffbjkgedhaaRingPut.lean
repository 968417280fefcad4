/-
  Put, at a ring that is one.
-/
import Derived.Test.YtlajffbjkgedhaaLinks
import Derived.Test.YtlajffbjkgedhaaOpen
import Derived.Test.YtlajffbjkgedhaaSame
import Derived.Deep.RegionWith
namespace Go.Proofs.Ytlajffbjkgedhaa.M
open Go.RowKit
set_option linter.unusedVariables false
set_option linter.unusedSectionVars false
set_option linter.unusedSimpArgs false
theorem RingS.known {w : World} {base R : Nat} {n : Int} {ls : List Lk} (h : RingS w base R n ls) (hs : 0 < n) :
    Calls Try.prog 26 #[.pointer (some ⟨R, 0, none⟩)] w fun e w' => e = .returned (.bool true) ∧ w = w' := by
  obtain ⟨l, h1, _⟩ := h.cell
  exact known_yes R _ _ n w h1 hs
theorem But.trans' {L : List Nat} {a b c : World} (h : But [] a b) (k : But L b c) : But L a c := (h.mono (by simp)).trans k (fun x hx => .inl hx)
/-- A thing put behind, whatever there is. -/
theorem ring_chainPut {w : World} {base R : Nat} {n : Int} {ls : List Lk} {v : Value} {bs : List Value} (h : RingS w base R n ls) (hv : Own w v bs) (hn : ∀ k, v.ownBlock = some k → base ≤ k) :
    Calls Try.prog 28 #[.pointer (some ⟨R, 0, none⟩), v] w fun e w' => e = nothing ∧ RingS w' base R n (ls ++ [⟨w.heap.size, v, bs⟩]) ∧ But (R :: ls.map Lk.blk) w w' := by
  obtain ⟨l, h1, h2⟩ := h.cell
  obtain ⟨a, c, e⟩ := own_form hv
  by_cases h0 : ls = []
  · subst h0
    refine (put_first R l _ v a _ c w e h1).mono ?_
    rintro e w' ⟨rfl, rfl⟩
    have := h.put_first hv hn
    exact ⟨rfl, this.1, this.2⟩
  · obtain ⟨y, hy⟩ : ∃ y, ls.getLast? = some y := by
      cases hh : ls.getLast? with
      | none => exact absurd (List.getLast?_eq_none_iff.1 hh) h0
      | some y => exact ⟨y, rfl⟩
    have hy' := List.mem_of_getLast? hy
    obtain rfl := h2 y hy
    obtain ⟨x, ls', rfl⟩ : ∃ x ls', ls = x :: ls' := by
      cases ls with
      | nil => exact absurd rfl h0
      | cons x l => exact ⟨x, l, rfl⟩
    refine (put_more R y.blk _ _ _ v none a _ c w e h1 (h.last hy) (h.ne y hy').1).mono ?_
    rintro e w' ⟨rfl, rfl⟩
    have := h.put_more hy hv hn
    exact ⟨rfl, this.1, this.2.mono (by
      intro k hk
      simp only [List.mem_cons, List.not_mem_nil, or_false] at hk
      rcases hk with rfl | rfl
      · exact List.mem_cons_of_mem _ (List.mem_map.2 ⟨y, hy', rfl⟩)
      · exact List.mem_cons_self ..)⟩
theorem ringPut_long {w : World} {base R : Nat} {n : Int} {ls : List Lk} (h : RingS w base R n ls) (hs : 0 < n) (a : Option Addr) (m c : Nat) (hm : 65536 < m) (hm2 : m ≤ 1000000000000000) :
    Calls Try.prog 15 #[.pointer (some ⟨R, 0, none⟩), .slice a m c] w fun e w' => e = .returned (.int .i64 3) ∧ But [] w w' := by
  have H := Lib.hid h
  clear h
  go_enter Try.func15, Try.ntmps15
  go_wp2_with (go_at_call 26; refine (H.out.known hs).mono ?_; rintro e w1 ⟨rfl, rfl⟩)
  go_ret
  exact ⟨rfl, But.refl _ _⟩
theorem ringPut_full {w : World} {base R : Nat} {n : Int} {ls : List Lk} (h : RingS w base R n ls) (hs : 0 < n) (hs2 : n ≤ 1000000) (hu : used ls ≤ n) (a : Option Addr) (m c : Nat) (hm : m ≤ 65536) (hf : n < 8 + m + used ls) :
    Calls Try.prog 15 #[.pointer (some ⟨R, 0, none⟩), .slice a m c] w fun e w' => e = .returned (.int .i64 8) ∧ But [] w w' := by
  have H := Lib.hid h
  have hn := used_nonneg ls
  clear h
  have hf2 : n - used ls < 8 + (m : Int) := by omega
  go_enter Try.func15, Try.ntmps15
  go_wp2_with (first | (go_at_call 26; refine (H.out.known hs).mono ?_; rintro e w1 ⟨rfl, rfl⟩) | (go_at_call 19; refine (H.out.room hs hs2 hu).mono ?_; rintro e w1 ⟨rfl, hb⟩))
  go_ret
  exact ⟨rfl, hb⟩
theorem ringPut_ok {w : World} {base R : Nat} {n : Int} {ls : List Lk} (h : RingS w base R n ls) (hs : 0 < n) (hs2 : n ≤ 1000000) (hu : used ls ≤ n) {s : Value} {xs : List Value} (hx : Sees w s xs) (h1 : IsBytes xs) (hm : xs.length ≤ 65536) (hf : 8 + xs.length + used ls ≤ n) :
    Calls Try.prog 15 #[.pointer (some ⟨R, 0, none⟩), s] w fun e w' => e = .returned (.int .i64 0) ∧ ∃ z : Lk, z.bs = xs ∧ (∀ k, z.sl.ownBlock = some k → w.heap.size ≤ k) ∧ RingS w' base R n (ls ++ [z]) ∧ But (R :: ls.map Lk.blk) w w' := by
  obtain ⟨a, c, rfl, _⟩ := sees_shape hx
  have H := Lib.hid h
  have HX := Lib.hid hx
  have H1 := Lib.hid h1
  have hn := used_nonneg ls
  have hf2 : ¬ n - used ls < 8 + (xs.length : Int) := by omega
  have hlt := h.lt
  have hbase := h.hbase
  clear h hx h1
  go_enter Try.func15, Try.ntmps15
  go_wp2_with (first | (go_at_call 26; refine (H.out.known hs).mono ?_; rintro e w1 ⟨rfl, rfl⟩) | (go_at_call 19; refine (H.out.room hs hs2 hu).mono ?_; rintro e w1 ⟨rfl, hb⟩))
  have HS : Hid (RingS w1 base R n ls) := Lib.hid (H.out.keep hb)
  have HB := Lib.hid hb
  have HX1 := Lib.hid (HX.out.but hb (by simp))
  clear hb
  go_region_with (first | (go_at_call 29; refine (clone _ xs _ (HX1.out.but ((But.refl [] w1).drewN _) (by simp)) H1.out.one (by omega)).mono ?_; rintro e w2 ⟨v, rfl, hv, hvn, hb2⟩; replace hb2 : But [] w1 w2 := (((But.refl [] w1).drew).trans hb2 (by simp)); obtain ⟨a2, c2, rfl⟩ := own_form hv; have HV := Lib.hid hv; have HVN := Lib.hid hvn; have HB2 := Lib.hid hb2; clear hv hvn hb2) | (go_at_call 28; refine (ring_chainPut (base := base) (n := n) (ls := ls) (bs := xs) (HS.out.keep HB2.out) HV.out (fun k hk => by have h9 := HVN.out k hk; have h8 := HB.out.size; have h7 : w1.heap.size ≤ k := h9; omega)).mono ?_; rintro e w3 ⟨rfl, hS3, hb3⟩))
  all_goals
    go_wp2
    go_ret
    exact ⟨rfl, ⟨_, _, _⟩, rfl, fun k hk => Nat.le_trans HB.out.size (HVN.out k hk), hS3, (HB.out.trans HB2.out (by simp)).trans' hb3⟩
end Go.Proofs.Ytlajffbjkgedhaa.M
