/-
  trie.Delete of a live trie: where the key has no entry.
-/
import Derived.Test.YtpoinhfkgnkedaaGE
import Derived.Test.YtpoinhfkgnkedaaReachB
namespace Go.Proofs.Ytpoinhfkgnkedaa.M
open Go.RowKit Go.Shelf
set_option linter.unusedVariables false
set_option linter.unusedSectionVars false
set_option linter.unusedSimpArgs false
theorem al_drew (w : World) (o : Obj) : (w.alloc o).drew.heap[w.heap.size]? = some o := al_at w o
set_option maxRecDepth 100000 in
set_option maxHeartbeats 4000000 in
theorem delete_none {w : World} {P root U Rm K V N : Nat} {nd xs : Path → Option Nat} {pl kb : Nat → Nat} {f : Nat → Bool} {g : Nat → Nat} {rows : List (List Int)} (h : TrieS w P root U Rm K V N nd xs pl kb f g rows) (ad : Addr) (cp : Nat) (ks : List Int) (hn : ks.length = K) (hk : KeyOk ks) (hs : Sees w (.slice (some ad) ks.length cp) (u8s ks)) (hx : xs (kbits ks) = none) :
    Calls Try.prog 11 #[.pointer (some ⟨P, 0, none⟩), .slice (some ad) ks.length cp] w fun e w' => e = .returned (.int .i64 6) ∧ But [] w w' := by
  subst hn
  have hch := check_w h.head ad cp ks rfl ⟨hk.four, hk.long⟩ hs hk.bytes
  rw [if_neg (by have := hk.fits; omega)] at hch
  have d4 : w.cell? ⟨P, 4, none⟩ = some (.pointer (some ⟨root, 0, none⟩)) := cl_of h.head 4
  have HCH := Lib.hid hch
  have HD4 := Lib.hid d4
  have HH := Lib.hid h
  have HK := Lib.hid hk
  have HS := Lib.hid hs
  have HX := Lib.hid hx
  clear hch h hk hs d4 hx
  go_enter Try.func11, Try.ntmps11
  go_wp2_with fail
  refine HCH.out.mono ?_
  rintro e w1 ⟨rfl, hb1⟩
  have HB1 := Lib.hid hb1
  clear hb1
  go_upto_region 4 with fail
  have HS0 : Hid (∀ wx, But [] w1 wx → wx.cell? ⟨P, 4, none⟩ = some (.pointer (some ⟨root, 0, none⟩))) := Lib.hid fun wx hx => cell_but (HB1.out.trans hx (by simp)) HD4.out (by simp)
  have d4 := HS0.out w1 (But.refl _ _)
  have HREACH : Hid (∀ wx, But [] w1 wx → ∀ P0, wx.heap[P0]? = some (.cells #[.slice (some ad) ks.length cp] 26) → Calls Try.prog 35 #[.pointer (some ⟨root, 0, none⟩), .func (.func 54) #[] #[.pointer (some ⟨P0, 0, none⟩)], .bool false] wx fun e w' => e = .returned (pv (nd (kbits ks))) ∧ But [] wx w') := Lib.hid fun wx hb P0 hP0 => by
    have hbw := HB1.out.trans hb (by simp)
    exact callsIn_wide.1 (reach_no P0 ad cp ks wx nd xs root ((HH.out.new hbw).tree) HH.out.rt hP0 (HS.out.but hbw (by simp)) HK.out)
  go_region_held3 (fun wx => wx.cell? ⟨P, 4, none⟩ = some (.pointer (some ⟨root, 0, none⟩))) (exact HS0.out _ (by repeat (first | assumption | exact But.refl _ _ | refine But.drew ?_ | refine But.alloc ?_ _))) (first
    | (go_at_call 36; (with_reducible refine (bits_c _ _ _ _).mono ?_); rintro e w7 ⟨rfl, rfl⟩)
    | (go_at_call 35; (with_reducible refine (HREACH.out _ (by repeat (first | exact But.refl _ _ | refine But.drew ?_ | refine But.alloc ?_ _)) _ (by first | exact al_drew _ _ | exact al_at _ _)).mono ?_); rintro e w8 ⟨rfl, h8⟩; have h81 : But [] w1 w8 := (by repeat (first | exact But.refl _ _ | refine But.drew ?_ | refine But.alloc ?_ _) : But [] w1 _).trans h8 (by simp); have hk8 := HS0.out w8 h81; have H8 := Lib.hid h81; clear h8 h81))
  have HB8 : Hid (But [] w w8) := Lib.hid (HB1.out.trans H8.out (by simp))
  cases hq : nd (kbits ks) with
  | none =>
    unfold pv
    simp only [Option.map_none]
    clear hq
    go_wp2_with fail
    go_ret
    exact ⟨rfl, HB8.out⟩
  | some b =>
    have n2 : w8.cell? ⟨b, 2, none⟩ = some (pv (xs (kbits ks))) := cl_of ((HH.out.new HB8.out).tree.cell _ b hq) 2
    rw [HX.out] at n2
    unfold pv at n2 ⊢
    simp only [Option.map_none, Option.map_some] at n2 ⊢
    clear hq
    go_wp2_with fail
    go_ret
    exact ⟨rfl, HB8.out⟩
end Go.Proofs.Ytpoinhfkgnkedaa.M
