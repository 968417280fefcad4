/-
  trie.Delete of a live trie: where the key has an entry.
-/
import Derived.Test.YtpoinhfkgnkedaaTrDel
namespace Go.Proofs.Ytpoinhfkgnkedaa.M
open Go.RowKit Go.Shelf
set_option linter.unusedVariables false
set_option linter.unusedSectionVars false
set_option linter.unusedSimpArgs false
set_option maxRecDepth 100000 in
set_option maxHeartbeats 4000000 in
theorem delete_hit {w : World} {P root U Rm K V N : Nat} {nd xs : Path → Option Nat} {pl kb : Nat → Nat} {f : Nat → Bool} {g : Nat → Nat} {rows : List (List Int)} (h : TrieS w P root U Rm K V N nd xs pl kb f g rows) (ad : Addr) (cp : Nat) (ks : List Int) (hn : ks.length = K) (hk : KeyOk ks) (hs : Sees w (.slice (some ad) ks.length cp) (u8s ks)) {e0 : Nat} (hx : xs (kbits ks) = some e0) :
    Calls Try.prog 11 #[.pointer (some ⟨P, 0, none⟩), .slice (some ad) ks.length cp] w fun e w' => e = .returned (.int .i64 0) ∧ TrieS w' P root U Rm K V N nd (minus xs (kbits ks)) pl kb (upd f (pl e0) false) g rows ∧ ∃ L, (∀ x ∈ L, (∃ ρ, nd ρ = some x) ∨ x = U) ∧ But L w w' := by
  subst hn
  have hch := check_w h.head ad cp ks rfl ⟨hk.four, hk.long⟩ hs hk.bytes
  rw [if_neg (by have := hk.fits; omega)] at hch
  have d4 : w.cell? ⟨P, 4, none⟩ = some (.pointer (some ⟨root, 0, none⟩)) := cl_of h.head 4
  have HCH := Lib.hid hch
  have HD4 := Lib.hid d4
  have HH := Lib.hid h
  have HK := Lib.hid hk
  have HS := Lib.hid hs
  have HX := Lib.hid hx
  clear hch h hk hs d4 hx
  go_enter Try.func11, Try.ntmps11
  go_wp2_with fail
  refine HCH.out.mono ?_
  rintro e w1 ⟨rfl, hb1⟩
  have HB1 := Lib.hid hb1
  clear hb1
  go_upto_region 4 with fail
  have HS0 : Hid (∀ wx, But [] w1 wx → wx.cell? ⟨P, 4, none⟩ = some (.pointer (some ⟨root, 0, none⟩))) := Lib.hid fun wx hx => cell_but (HB1.out.trans hx (by simp)) HD4.out (by simp)
  have d4 := HS0.out w1 (But.refl _ _)
  have HREACH : Hid (∀ wx, But [] w1 wx → ∀ P0, wx.heap[P0]? = some (.cells #[.slice (some ad) ks.length cp] 26) → Calls Try.prog 35 #[.pointer (some ⟨root, 0, none⟩), .func (.func 54) #[] #[.pointer (some ⟨P0, 0, none⟩)], .bool false] wx fun e w' => e = .returned (pv (nd (kbits ks))) ∧ But [] wx w') := Lib.hid fun wx hb P0 hP0 => by
    have hbw := HB1.out.trans hb (by simp)
    exact callsIn_wide.1 (reach_no P0 ad cp ks wx nd xs root ((HH.out.new hbw).tree) HH.out.rt hP0 (HS.out.but hbw (by simp)) HK.out)
  go_region_held3 (fun wx => wx.cell? ⟨P, 4, none⟩ = some (.pointer (some ⟨root, 0, none⟩))) (exact HS0.out _ (by repeat (first | assumption | exact But.refl _ _ | refine But.drew ?_ | refine But.alloc ?_ _))) (first
    | (go_at_call 36; (with_reducible refine (bits_c _ _ _ _).mono ?_); rintro e w7 ⟨rfl, rfl⟩)
    | (go_at_call 35; (with_reducible refine (HREACH.out _ (by repeat (first | exact But.refl _ _ | refine But.drew ?_ | refine But.alloc ?_ _)) _ (by first | exact al_drew _ _ | exact al_at _ _)).mono ?_); rintro e w8 ⟨rfl, h8⟩; have h81 : But [] w1 w8 := (by repeat (first | exact But.refl _ _ | refine But.drew ?_ | refine But.alloc ?_ _) : But [] w1 _).trans h8 (by simp); have hk8 := HS0.out w8 h81; have H8 := Lib.hid h81; clear h8 h81))
  have HB8 : Hid (But [] w w8) := Lib.hid (HB1.out.trans H8.out (by simp))
  obtain ⟨b, hq⟩ := HH.out.tree.ent _ _ HX.out
  have h9 := HH.out.new HB8.out
  have hcell := h9.tree.cell _ b hq
  have n2 : w8.cell? ⟨b, 2, none⟩ = some (pv (xs (kbits ks))) := cl_of hcell 2
  have f2 : w8.frozen? ⟨b, 2, none⟩ = false := fz_of hcell 2
  rw [HX.out] at n2
  rw [hq]
  unfold pv at n2 ⊢
  simp only [Option.map_some] at n2 ⊢
  have p5 : w8.cell? ⟨P, 5, none⟩ = some (.slice (some ⟨U, 0, none⟩) N N) := cl_of h9.head 5
  have e1 : w8.cell? ⟨e0, 1, none⟩ = some (.int .i64 (pl e0 : Nat)) := cl_of (h9.ent _ _ HX.out) 1
  have hlt := h9.plt _ _ HX.out
  have hlt1 : ((pl e0 : Nat) : Int) < (N : Int) := by omega
  have hlt0 : (0 : Int) ≤ ((pl e0 : Nat) : Int) := by omega
  obtain ⟨C, hC, hCs, hCc⟩ := id h9.used
  have u1 : w8.cell? ⟨U, pl e0, none⟩ = some (.bool (f (pl e0))) := (cl_of hC _).trans (hCc _ hlt)
  have fu : w8.frozen? ⟨U, pl e0, none⟩ = false := fz_of hC _
  have hbu : b ≠ U := (h9.notNode ⟨_, hq⟩).2.1
  have hub : U ≠ b := hbu.symm
  have HEND : Hid (TrieS ((w8.setCell ⟨U, pl e0, none⟩ (.bool false)).setCell ⟨b, 2, none⟩ (.pointer none)).drew P root U Rm ks.length V N nd (minus xs (kbits ks)) pl kb (upd f (pl e0) false) g rows) := Lib.hid (by
    refine h9.drop hq HX.out ?_ ⟨C.set! (pl e0) (.bool false), ?_, by simp [hCs], fun i hi => ?_⟩ ((((But.refl [b, U] w8).setCell (.inl (by simp)) _).setCell (.inl (by simp)) _).drew)
    · have hc1 : (w8.setCell ⟨U, pl e0, none⟩ (.bool false)).heap[b]? = _ := (heap_setN hub).trans hcell
      show ((w8.setCell ⟨U, pl e0, none⟩ (.bool false)).setCell ⟨b, 2, none⟩ (.pointer none)).heap[b]? = _
      rw [heap_setC hc1]
      rfl
    · show ((w8.setCell ⟨U, pl e0, none⟩ (.bool false)).setCell ⟨b, 2, none⟩ (.pointer none)).heap[U]? = _
      rw [heap_setN hbu, heap_setC hC]
    · by_cases ei : i = pl e0
      · subst ei
        rw [upd_at]
        simp [hCs, hlt]
      · rw [upd_ne _ _ ei, ← hCc i hi]
        simp [Array.getElem?_setIfInBounds_ne (Ne.symm ei)])
  have H9 := Lib.hid h9
  have HQ := Lib.hid hq
  clear h9 hcell hC hCs hCc hq
  go_wp2_with fail
  go_region
  go_wp2_with fail
  go_ret
  exact ⟨rfl, HEND.out, [b, U], fun x hx => by
    simp only [List.mem_cons, List.not_mem_nil, or_false] at hx
    rcases hx with rfl | rfl
    · exact .inl ⟨_, HQ.out⟩
    · exact .inr rfl, (HB8.out.mono (by simp)).trans ((((But.refl [b, U] w8).setCell (.inl (by simp)) _).setCell (.inl (by simp)) _).drew) (fun x hx => .inl hx)⟩
end Go.Proofs.Ytpoinhfkgnkedaa.M
