/-
  lru: Keys of one that is empty.
-/
import Derived.Test.YtifgfnifadmoaaaLruQ
namespace Go.Proofs.Ytifgfnifadmoaaa.M
open Go.RowKit Go.Shelf
set_option linter.unusedVariables false
set_option linter.unusedSectionVars false
set_option linter.unusedSimpArgs false
attribute [local go_sem] Oper.semAt_some
def Ky0 (w : World) (pre : List Nat) (W : World) : Prop := W.heap[w.heap.size]? = some (.cells #[.slice none 0 0] 26) ∧ But [] w W
theorem Ky0.abides (w : World) (B : Nat) (hB : w.heap.size < B) : Abides B (Ky0 w) := Abides.of_but fun s V W L h hb hL =>
  ⟨hb.heap h.1 (fun hm => by have := (hL _ hm).1; omega), h.2.trans hb (fun x hx => .inr (by have := (hL x hx).1; omega))⟩
set_option maxRecDepth 100000 in
set_option maxHeartbeats 8000000 in
theorem keys_empty {w : World} {P M U Rm : Nat} {g : Nat → Nat} {K V N : Nat} {rows : List (List Int)} (h : LruW w P M U Rm g K V N [] rows) :
    CallsIn Fence.wide 3 Try.prog 12 #[.pointer (some ⟨P, 0, none⟩)] w fun e w' => e = .returned (.slice none 0 0) ∧ But [] w w' := by
  have HH := Lib.hid h
  have a8 := h.h8
  have he := eq_mapS M w
  have hb1 : But [] w (w.alloc (.cells #[.slice none 0 0] 26)) := (But.refl [] w).alloc _
  have HB1 := Lib.hid hb1
  clear h hb1
  refine callsIn_of_wp_marks Try.func12 rfl trivial ?_ rfl
  simp only [Try.ntmps12, List.size_toArray, List.length_cons, List.length_nil, Nat.reduceAdd, Nat.reduceSub, Array.replicate_succ, Array.replicate_zero, List.push_toArray, List.append_toArray, List.nil_append, List.cons_append]
  gi_wp2
  refine ⟨trivial, ?_⟩
  refine (callsIn_wide.2 (all_c P _)).mono ?_
  have hsz : (w.alloc (.cells #[.slice none 0 0] 26)).heap.size = w.heap.size + 1 := size_alloc _ _
  rintro e w4 ⟨rfl, hw4⟩
  rw [hsz]
  have hb4 : But [] (w.alloc (.cells #[.slice none 0 0] 26)) w4 := by rw [hw4]; exact (But.refl _ _).alloc _
  have HBX : Hid (w4.heap[w.heap.size]? = some (.cells #[.slice none 0 0] 26)) := Lib.hid (hb4.heap (al_at _ _) (by simp))
  have HIT : Hid (w4.heap[w.heap.size + 1]? = some (.cells #[.pointer (some ⟨P, 4, none⟩)] 89)) := Lib.hid (by rw [hw4, ← hsz]; exact al_at _ _)
  have HZ : Hid (w4.heap.size = w.heap.size + 2) := Lib.hid (by rw [hw4, size_alloc, hsz])
  have HB4 : Hid (But [] w w4) := Lib.hid (HB1.out.trans hb4 (by simp))
  have HH4 := Lib.hid (HH.out.new HB4.out)
  have HSEQ := Lib.hid (all_seq 2 (by omega) P (w.heap.size + 1) (bl []) (fun _ => True) w4 HIT.out HH4.out.chain trivial trivial (fun _ _ => trivial))
  clear hsz hw4 hb4 a8 he
  gi_wp2
  refine wpIn_rangeFunc_but rfl (by omega) (gf := 48) (lb := #[.pointer (some ⟨w.heap.size + 1, 0, none⟩)]) rfl trivial (enters_of Try.func48 (by kernel_rfl) rfl) HSEQ.out
    (fun h k => h.trans k) (fun hz hb => KeepB.of_but hb (by simp)) (fun V l o o' hl hV ho => KeepB.put V l o o' hV ho) (anyN_abides _ _) (But.refl _ _) (fun _ => rfl)
    (Ky0 w) (fun c pre W => False) (Ky0.abides w _ (by have := HZ.out; omega)) (fun c => Abides.none _) ⟨HBX.out, HB4.out⟩
    (fun x a' W => False) (fun a' => Abides.none _) ?assign ?body ?done ?stop ?throw
  case assign =>
    intro l pre x W K _ hx
    cases hx
  case body =>
    rintro l pre x a' W h
    exact h.elim
  case done =>
    rintro D xs W hD hS hI hK
    have c0 : W.cell? ⟨w.heap.size, 0, none⟩ = some (.slice none 0 0) := cl_of hI.1 0
    have HI := Lib.hid hI
    have HK := Lib.hid hK
    have HDD : Hid (w.heap.size + 2 = D) := Lib.hid (by rw [hD, HZ.out])
    clear hI hK hS hD
    gi_wp2
    have hbp := but_putObj (.deferred Option.none) HK.out
    refine ⟨by simp, .inl ⟨_, _, rfl, run_takeDeferred HK.out, ?_⟩⟩
    exact ⟨_, results_tmp rfl _ _ _, rfl, HI.out.2.trans hbp (fun y hy => .inr (by have := HDD.out; simp at hy; omega))⟩
  case stop =>
    rintro D c pre W _ _ h _
    exact h.elim
  case throw =>
    rintro D pre chain W _ h _ _
    exact h.elim
theorem LS.keys0 {w : World} {ok : Nat → Prop} {P K V N : Nat} {rows : List (List Int)} (h : LS w ok P K V N [] rows) :
    Calls Try.prog 12 #[.pointer (some ⟨P, 0, none⟩)] w fun e w' => e = .returned (.slice none 0 0) ∧ But [] w w' := by
  obtain ⟨M, U, Rm, g, E, h1, h2, h3, h4⟩ := h
  obtain rfl : E = [] := by
    have := enc_elen h2
    exact List.eq_nil_of_length_eq_zero this
  exact callsIn_wide.1 (keys_empty h1)
end Go.Proofs.Ytifgfnifadmoaaa.M
