/-
  Merged: TrUpd, TrUpe, TrBad, TrO.
-/
import Derived.Test.YtpoinhfkgnkedaaTrDelB
import Derived.Test.YtpoinhfkgnkedaaIdx
import Derived.Test.YtpoinhfkgnkedaaCopyB
namespace Go.Proofs.Ytpoinhfkgnkedaa.M
open Go.RowKit Go.Shelf
set_option linter.unusedVariables false
set_option linter.unusedSectionVars false
set_option linter.unusedSimpArgs false
set_option maxRecDepth 100000 in
set_option maxHeartbeats 4000000 in
theorem upd_len_hit {w : World} {P root U Rm K V N : Nat} {nd xs : Path → Option Nat} {pl kb : Nat → Nat} {f : Nat → Bool} {g : Nat → Nat} {rows : List (List Int)} (h : TrieS w P root U Rm K V N nd xs pl kb f g rows) (ad : Addr) (cp : Nat) (ks : List Int) (hn : ks.length = K) (hk : KeyOk ks) (hs : Sees w (.slice (some ad) ks.length cp) (u8s ks)) (va : Option Addr) (vn vc : Nat) (fl : Int) {e0 : Nat} (hx : xs (kbits ks) = some e0) (hv : ((vn : Int) == (V : Int)) = false) :
    Calls Try.prog 12 #[.pointer (some ⟨P, 0, none⟩), .slice (some ad) ks.length cp, .slice va vn vc, .int .u64 fl] w fun e w' => e = .returned (.int .i64 2) ∧ But [] w w' := by
  subst hn
  have hch := check_w h.head ad cp ks rfl ⟨hk.four, hk.long⟩ hs hk.bytes
  rw [if_neg (by have := hk.fits; omega)] at hch
  have d4 : w.cell? ⟨P, 4, none⟩ = some (.pointer (some ⟨root, 0, none⟩)) := cl_of h.head 4
  have HCH := Lib.hid hch
  have HD4 := Lib.hid d4
  have HNN : Hid (N ≤ 1000000000) := Lib.hid (by have := h.num; omega)
  have HH := Lib.hid h
  have HK := Lib.hid hk
  have HS := Lib.hid hs
  have HX := Lib.hid hx
  clear hch h hk hs d4 hx
  go_enter Try.func12, Try.ntmps12
  go_wp2_with fail
  refine HCH.out.mono ?_
  rintro e w1 ⟨rfl, hb1⟩
  have HB1 := Lib.hid hb1
  clear hb1
  go_upto_region 4 with fail
  have HS0 : Hid (∀ wx, But [] w1 wx → wx.cell? ⟨P, 4, none⟩ = some (.pointer (some ⟨root, 0, none⟩))) := Lib.hid fun wx hx => cell_but (HB1.out.trans hx (by simp)) HD4.out (by simp)
  have d4 := HS0.out w1 (But.refl _ _)
  have HREACH : Hid (∀ wx, But [] w1 wx → ∀ P0, wx.heap[P0]? = some (.cells #[.slice (some ad) ks.length cp] 26) → Calls Try.prog 35 #[.pointer (some ⟨root, 0, none⟩), .func (.func 54) #[] #[.pointer (some ⟨P0, 0, none⟩)], .bool false] wx fun e w' => e = .returned (pv (nd (kbits ks))) ∧ But [] wx w') := Lib.hid fun wx hb P0 hP0 => by
    have hbw := HB1.out.trans hb (by simp)
    exact callsIn_wide.1 (reach_no P0 ad cp ks wx nd xs root ((HH.out.new hbw).tree) HH.out.rt hP0 (HS.out.but hbw (by simp)) HK.out)
  go_region_held3 (fun wx => wx.cell? ⟨P, 4, none⟩ = some (.pointer (some ⟨root, 0, none⟩))) (exact HS0.out _ (by repeat (first | assumption | exact But.refl _ _ | refine But.drew ?_ | refine But.alloc ?_ _))) (first
    | (go_at_call 36; (with_reducible refine (bits_c _ _ _ _).mono ?_); rintro e w7 ⟨rfl, rfl⟩)
    | (go_at_call 35; (with_reducible refine (HREACH.out _ (by repeat (first | exact But.refl _ _ | refine But.drew ?_ | refine But.alloc ?_ _)) _ (by first | exact al_drew _ _ | exact al_at _ _)).mono ?_); rintro e w8 ⟨rfl, h8⟩; have h81 : But [] w1 w8 := (by repeat (first | exact But.refl _ _ | refine But.drew ?_ | refine But.alloc ?_ _) : But [] w1 _).trans h8 (by simp); have hk8 := HS0.out w8 h81; have H8 := Lib.hid h81; clear h8 h81))
  have HB8 : Hid (But [] w w8) := Lib.hid (HB1.out.trans H8.out (by simp))
  clear HCH HREACH HS0 HD4
  obtain ⟨b, hq⟩ := HH.out.tree.ent _ _ HX.out
  have h9 := HH.out.new HB8.out
  have n2 : w8.cell? ⟨b, 2, none⟩ = some (pv (xs (kbits ks))) := cl_of (h9.tree.cell _ b hq) 2
  rw [HX.out] at n2
  rw [hq]
  unfold pv at n2 ⊢
  simp only [Option.map_some] at n2 ⊢
  have HQ := Lib.hid hq
  have HU := Lib.hid h9.used
  have p2 : w8.cell? ⟨P, 2, none⟩ = some (.int .i64 V) := cl_of h9.head 2
  have p5 : w8.cell? ⟨P, 5, none⟩ = some (.slice (some ⟨U, 0, none⟩) N N) := cl_of h9.head 5
  have H9 := Lib.hid h9
  clear hq h9 d4 hk8
  go_wp2_with fail
  refine (index_c U N f w8 HU.out HNN.out).mono ?_
  rintro e w9 ⟨rfl, rfl⟩
  go_wp2_with fail
  go_ret
  exact ⟨rfl, HB8.out⟩
set_option maxRecDepth 100000 in
set_option maxHeartbeats 4000000 in
theorem upd_flag_hit {w : World} {P root U Rm K V N : Nat} {nd xs : Path → Option Nat} {pl kb : Nat → Nat} {f : Nat → Bool} {g : Nat → Nat} {rows : List (List Int)} (h : TrieS w P root U Rm K V N nd xs pl kb f g rows) (ad : Addr) (cp : Nat) (ks : List Int) (hn : ks.length = K) (hk : KeyOk ks) (hs : Sees w (.slice (some ad) ks.length cp) (u8s ks)) (va : Option Addr) (vn vc : Nat) (fl : Int) {e0 : Nat} (hx : xs (kbits ks) = some e0) (hv : ((vn : Int) == (V : Int)) = true) (hf : decide ((2 : Int) < fl) = true) :
    Calls Try.prog 12 #[.pointer (some ⟨P, 0, none⟩), .slice (some ad) ks.length cp, .slice va vn vc, .int .u64 fl] w fun e w' => e = .returned (.int .i64 2) ∧ But [] w w' := by
  subst hn
  have hch := check_w h.head ad cp ks rfl ⟨hk.four, hk.long⟩ hs hk.bytes
  rw [if_neg (by have := hk.fits; omega)] at hch
  have d4 : w.cell? ⟨P, 4, none⟩ = some (.pointer (some ⟨root, 0, none⟩)) := cl_of h.head 4
  have HCH := Lib.hid hch
  have HD4 := Lib.hid d4
  have HNN : Hid (N ≤ 1000000000) := Lib.hid (by have := h.num; omega)
  have HH := Lib.hid h
  have HK := Lib.hid hk
  have HS := Lib.hid hs
  have HX := Lib.hid hx
  clear hch h hk hs d4 hx
  go_enter Try.func12, Try.ntmps12
  go_wp2_with fail
  refine HCH.out.mono ?_
  rintro e w1 ⟨rfl, hb1⟩
  have HB1 := Lib.hid hb1
  clear hb1
  go_upto_region 4 with fail
  have HS0 : Hid (∀ wx, But [] w1 wx → wx.cell? ⟨P, 4, none⟩ = some (.pointer (some ⟨root, 0, none⟩))) := Lib.hid fun wx hx => cell_but (HB1.out.trans hx (by simp)) HD4.out (by simp)
  have d4 := HS0.out w1 (But.refl _ _)
  have HREACH : Hid (∀ wx, But [] w1 wx → ∀ P0, wx.heap[P0]? = some (.cells #[.slice (some ad) ks.length cp] 26) → Calls Try.prog 35 #[.pointer (some ⟨root, 0, none⟩), .func (.func 54) #[] #[.pointer (some ⟨P0, 0, none⟩)], .bool false] wx fun e w' => e = .returned (pv (nd (kbits ks))) ∧ But [] wx w') := Lib.hid fun wx hb P0 hP0 => by
    have hbw := HB1.out.trans hb (by simp)
    exact callsIn_wide.1 (reach_no P0 ad cp ks wx nd xs root ((HH.out.new hbw).tree) HH.out.rt hP0 (HS.out.but hbw (by simp)) HK.out)
  go_region_held3 (fun wx => wx.cell? ⟨P, 4, none⟩ = some (.pointer (some ⟨root, 0, none⟩))) (exact HS0.out _ (by repeat (first | assumption | exact But.refl _ _ | refine But.drew ?_ | refine But.alloc ?_ _))) (first
    | (go_at_call 36; (with_reducible refine (bits_c _ _ _ _).mono ?_); rintro e w7 ⟨rfl, rfl⟩)
    | (go_at_call 35; (with_reducible refine (HREACH.out _ (by repeat (first | exact But.refl _ _ | refine But.drew ?_ | refine But.alloc ?_ _)) _ (by first | exact al_drew _ _ | exact al_at _ _)).mono ?_); rintro e w8 ⟨rfl, h8⟩; have h81 : But [] w1 w8 := (by repeat (first | exact But.refl _ _ | refine But.drew ?_ | refine But.alloc ?_ _) : But [] w1 _).trans h8 (by simp); have hk8 := HS0.out w8 h81; have H8 := Lib.hid h81; clear h8 h81))
  have HB8 : Hid (But [] w w8) := Lib.hid (HB1.out.trans H8.out (by simp))
  clear HCH HREACH HS0 HD4
  obtain ⟨b, hq⟩ := HH.out.tree.ent _ _ HX.out
  have h9 := HH.out.new HB8.out
  have n2 : w8.cell? ⟨b, 2, none⟩ = some (pv (xs (kbits ks))) := cl_of (h9.tree.cell _ b hq) 2
  rw [HX.out] at n2
  rw [hq]
  unfold pv at n2 ⊢
  simp only [Option.map_some] at n2 ⊢
  have HQ := Lib.hid hq
  have HU := Lib.hid h9.used
  have p2 : w8.cell? ⟨P, 2, none⟩ = some (.int .i64 V) := cl_of h9.head 2
  have p5 : w8.cell? ⟨P, 5, none⟩ = some (.slice (some ⟨U, 0, none⟩) N N) := cl_of h9.head 5
  have H9 := Lib.hid h9
  clear hq h9 d4 hk8
  go_wp2_with fail
  refine (index_c U N f w8 HU.out HNN.out).mono ?_
  rintro e w9 ⟨rfl, rfl⟩
  go_wp2_with fail
  go_ret
  exact ⟨rfl, HB8.out⟩
set_option maxRecDepth 100000 in
set_option maxHeartbeats 4000000 in
theorem upd_len_miss {w : World} {P root U Rm K V N : Nat} {nd xs : Path → Option Nat} {pl kb : Nat → Nat} {f : Nat → Bool} {g : Nat → Nat} {rows : List (List Int)} (h : TrieS w P root U Rm K V N nd xs pl kb f g rows) (ad : Addr) (cp : Nat) (ks : List Int) (hn : ks.length = K) (hk : KeyOk ks) (hs : Sees w (.slice (some ad) ks.length cp) (u8s ks)) (va : Option Addr) (vn vc : Nat) (fl : Int) (hx : xs (kbits ks) = none) (hv : ((vn : Int) == (V : Int)) = false) :
    Calls Try.prog 12 #[.pointer (some ⟨P, 0, none⟩), .slice (some ad) ks.length cp, .slice va vn vc, .int .u64 fl] w fun e w' => e = .returned (.int .i64 2) ∧ But [] w w' := by
  subst hn
  have hch := check_w h.head ad cp ks rfl ⟨hk.four, hk.long⟩ hs hk.bytes
  rw [if_neg (by have := hk.fits; omega)] at hch
  have d4 : w.cell? ⟨P, 4, none⟩ = some (.pointer (some ⟨root, 0, none⟩)) := cl_of h.head 4
  have HCH := Lib.hid hch
  have HD4 := Lib.hid d4
  have HNN : Hid (N ≤ 1000000000) := Lib.hid (by have := h.num; omega)
  have HH := Lib.hid h
  have HK := Lib.hid hk
  have HS := Lib.hid hs
  have HX := Lib.hid hx
  clear hch h hk hs d4 hx
  go_enter Try.func12, Try.ntmps12
  go_wp2_with fail
  refine HCH.out.mono ?_
  rintro e w1 ⟨rfl, hb1⟩
  have HB1 := Lib.hid hb1
  clear hb1
  go_upto_region 4 with fail
  have HS0 : Hid (∀ wx, But [] w1 wx → wx.cell? ⟨P, 4, none⟩ = some (.pointer (some ⟨root, 0, none⟩))) := Lib.hid fun wx hx => cell_but (HB1.out.trans hx (by simp)) HD4.out (by simp)
  have d4 := HS0.out w1 (But.refl _ _)
  have HREACH : Hid (∀ wx, But [] w1 wx → ∀ P0, wx.heap[P0]? = some (.cells #[.slice (some ad) ks.length cp] 26) → Calls Try.prog 35 #[.pointer (some ⟨root, 0, none⟩), .func (.func 54) #[] #[.pointer (some ⟨P0, 0, none⟩)], .bool false] wx fun e w' => e = .returned (pv (nd (kbits ks))) ∧ But [] wx w') := Lib.hid fun wx hb P0 hP0 => by
    have hbw := HB1.out.trans hb (by simp)
    exact callsIn_wide.1 (reach_no P0 ad cp ks wx nd xs root ((HH.out.new hbw).tree) HH.out.rt hP0 (HS.out.but hbw (by simp)) HK.out)
  go_region_held3 (fun wx => wx.cell? ⟨P, 4, none⟩ = some (.pointer (some ⟨root, 0, none⟩))) (exact HS0.out _ (by repeat (first | assumption | exact But.refl _ _ | refine But.drew ?_ | refine But.alloc ?_ _))) (first
    | (go_at_call 36; (with_reducible refine (bits_c _ _ _ _).mono ?_); rintro e w7 ⟨rfl, rfl⟩)
    | (go_at_call 35; (with_reducible refine (HREACH.out _ (by repeat (first | exact But.refl _ _ | refine But.drew ?_ | refine But.alloc ?_ _)) _ (by first | exact al_drew _ _ | exact al_at _ _)).mono ?_); rintro e w8 ⟨rfl, h8⟩; have h81 : But [] w1 w8 := (by repeat (first | exact But.refl _ _ | refine But.drew ?_ | refine But.alloc ?_ _) : But [] w1 _).trans h8 (by simp); have hk8 := HS0.out w8 h81; have H8 := Lib.hid h81; clear h8 h81))
  have HB8 : Hid (But [] w w8) := Lib.hid (HB1.out.trans H8.out (by simp))
  clear HCH HREACH HS0 HD4
  have h9 := HH.out.new HB8.out
  cases hq : nd (kbits ks) with
  | none =>
    unfold pv
    simp only [Option.map_none]
    have HU := Lib.hid h9.used
    have p2 : w8.cell? ⟨P, 2, none⟩ = some (.int .i64 V) := cl_of h9.head 2
    have p5 : w8.cell? ⟨P, 5, none⟩ = some (.slice (some ⟨U, 0, none⟩) N N) := cl_of h9.head 5
    have H9 := Lib.hid h9
    clear hq h9 d4 hk8
    go_wp2_with fail
    refine (index_c U N f w8 HU.out HNN.out).mono ?_
    rintro e w9 ⟨rfl, rfl⟩
    go_wp2_with fail
    go_ret
    exact ⟨rfl, HB8.out⟩
  | some b =>
    have n2 : w8.cell? ⟨b, 2, none⟩ = some (pv (xs (kbits ks))) := cl_of (h9.tree.cell _ b hq) 2
    rw [HX.out] at n2
    unfold pv at n2 ⊢
    simp only [Option.map_none, Option.map_some] at n2 ⊢
    have HU := Lib.hid h9.used
    have p2 : w8.cell? ⟨P, 2, none⟩ = some (.int .i64 V) := cl_of h9.head 2
    have p5 : w8.cell? ⟨P, 5, none⟩ = some (.slice (some ⟨U, 0, none⟩) N N) := cl_of h9.head 5
    have H9 := Lib.hid h9
    clear hq h9 d4 hk8
    go_wp2_with fail
    refine (index_c U N f w8 HU.out HNN.out).mono ?_
    rintro e w9 ⟨rfl, rfl⟩
    go_wp2_with fail
    go_ret
    exact ⟨rfl, HB8.out⟩
set_option maxRecDepth 100000 in
set_option maxHeartbeats 4000000 in
theorem upd_flag_miss {w : World} {P root U Rm K V N : Nat} {nd xs : Path → Option Nat} {pl kb : Nat → Nat} {f : Nat → Bool} {g : Nat → Nat} {rows : List (List Int)} (h : TrieS w P root U Rm K V N nd xs pl kb f g rows) (ad : Addr) (cp : Nat) (ks : List Int) (hn : ks.length = K) (hk : KeyOk ks) (hs : Sees w (.slice (some ad) ks.length cp) (u8s ks)) (va : Option Addr) (vn vc : Nat) (fl : Int) (hx : xs (kbits ks) = none) (hv : ((vn : Int) == (V : Int)) = true) (hf : decide ((2 : Int) < fl) = true) :
    Calls Try.prog 12 #[.pointer (some ⟨P, 0, none⟩), .slice (some ad) ks.length cp, .slice va vn vc, .int .u64 fl] w fun e w' => e = .returned (.int .i64 2) ∧ But [] w w' := by
  subst hn
  have hch := check_w h.head ad cp ks rfl ⟨hk.four, hk.long⟩ hs hk.bytes
  rw [if_neg (by have := hk.fits; omega)] at hch
  have d4 : w.cell? ⟨P, 4, none⟩ = some (.pointer (some ⟨root, 0, none⟩)) := cl_of h.head 4
  have HCH := Lib.hid hch
  have HD4 := Lib.hid d4
  have HNN : Hid (N ≤ 1000000000) := Lib.hid (by have := h.num; omega)
  have HH := Lib.hid h
  have HK := Lib.hid hk
  have HS := Lib.hid hs
  have HX := Lib.hid hx
  clear hch h hk hs d4 hx
  go_enter Try.func12, Try.ntmps12
  go_wp2_with fail
  refine HCH.out.mono ?_
  rintro e w1 ⟨rfl, hb1⟩
  have HB1 := Lib.hid hb1
  clear hb1
  go_upto_region 4 with fail
  have HS0 : Hid (∀ wx, But [] w1 wx → wx.cell? ⟨P, 4, none⟩ = some (.pointer (some ⟨root, 0, none⟩))) := Lib.hid fun wx hx => cell_but (HB1.out.trans hx (by simp)) HD4.out (by simp)
  have d4 := HS0.out w1 (But.refl _ _)
  have HREACH : Hid (∀ wx, But [] w1 wx → ∀ P0, wx.heap[P0]? = some (.cells #[.slice (some ad) ks.length cp] 26) → Calls Try.prog 35 #[.pointer (some ⟨root, 0, none⟩), .func (.func 54) #[] #[.pointer (some ⟨P0, 0, none⟩)], .bool false] wx fun e w' => e = .returned (pv (nd (kbits ks))) ∧ But [] wx w') := Lib.hid fun wx hb P0 hP0 => by
    have hbw := HB1.out.trans hb (by simp)
    exact callsIn_wide.1 (reach_no P0 ad cp ks wx nd xs root ((HH.out.new hbw).tree) HH.out.rt hP0 (HS.out.but hbw (by simp)) HK.out)
  go_region_held3 (fun wx => wx.cell? ⟨P, 4, none⟩ = some (.pointer (some ⟨root, 0, none⟩))) (exact HS0.out _ (by repeat (first | assumption | exact But.refl _ _ | refine But.drew ?_ | refine But.alloc ?_ _))) (first
    | (go_at_call 36; (with_reducible refine (bits_c _ _ _ _).mono ?_); rintro e w7 ⟨rfl, rfl⟩)
    | (go_at_call 35; (with_reducible refine (HREACH.out _ (by repeat (first | exact But.refl _ _ | refine But.drew ?_ | refine But.alloc ?_ _)) _ (by first | exact al_drew _ _ | exact al_at _ _)).mono ?_); rintro e w8 ⟨rfl, h8⟩; have h81 : But [] w1 w8 := (by repeat (first | exact But.refl _ _ | refine But.drew ?_ | refine But.alloc ?_ _) : But [] w1 _).trans h8 (by simp); have hk8 := HS0.out w8 h81; have H8 := Lib.hid h81; clear h8 h81))
  have HB8 : Hid (But [] w w8) := Lib.hid (HB1.out.trans H8.out (by simp))
  clear HCH HREACH HS0 HD4
  have h9 := HH.out.new HB8.out
  cases hq : nd (kbits ks) with
  | none =>
    unfold pv
    simp only [Option.map_none]
    have HU := Lib.hid h9.used
    have p2 : w8.cell? ⟨P, 2, none⟩ = some (.int .i64 V) := cl_of h9.head 2
    have p5 : w8.cell? ⟨P, 5, none⟩ = some (.slice (some ⟨U, 0, none⟩) N N) := cl_of h9.head 5
    have H9 := Lib.hid h9
    clear hq h9 d4 hk8
    go_wp2_with fail
    refine (index_c U N f w8 HU.out HNN.out).mono ?_
    rintro e w9 ⟨rfl, rfl⟩
    go_wp2_with fail
    go_ret
    exact ⟨rfl, HB8.out⟩
  | some b =>
    have n2 : w8.cell? ⟨b, 2, none⟩ = some (pv (xs (kbits ks))) := cl_of (h9.tree.cell _ b hq) 2
    rw [HX.out] at n2
    unfold pv at n2 ⊢
    simp only [Option.map_none, Option.map_some] at n2 ⊢
    have HU := Lib.hid h9.used
    have p2 : w8.cell? ⟨P, 2, none⟩ = some (.int .i64 V) := cl_of h9.head 2
    have p5 : w8.cell? ⟨P, 5, none⟩ = some (.slice (some ⟨U, 0, none⟩) N N) := cl_of h9.head 5
    have H9 := Lib.hid h9
    clear hq h9 d4 hk8
    go_wp2_with fail
    refine (index_c U N f w8 HU.out HNN.out).mono ?_
    rintro e w9 ⟨rfl, rfl⟩
    go_wp2_with fail
    go_ret
    exact ⟨rfl, HB8.out⟩
set_option maxRecDepth 100000 in
set_option maxHeartbeats 4000000 in
theorem upd_there {w : World} {P root U Rm K V N : Nat} {nd xs : Path → Option Nat} {pl kb : Nat → Nat} {f : Nat → Bool} {g : Nat → Nat} {rows : List (List Int)} (h : TrieS w P root U Rm K V N nd xs pl kb f g rows) (ad : Addr) (cp : Nat) (ks : List Int) (hn : ks.length = K) (hk : KeyOk ks) (hs : Sees w (.slice (some ad) ks.length cp) (u8s ks)) (va : Option Addr) (vn vc : Nat) (fl : Int) {e0 : Nat} (hx : xs (kbits ks) = some e0) (hv : ((vn : Int) == (V : Int)) = true) (hf : decide ((2 : Int) < (1 : Int)) = false) :
    Calls Try.prog 12 #[.pointer (some ⟨P, 0, none⟩), .slice (some ad) ks.length cp, .slice va vn vc, .int .u64 1] w fun e w' => e = .returned (.int .i64 7) ∧ But [] w w' := by
  subst hn
  have hch := check_w h.head ad cp ks rfl ⟨hk.four, hk.long⟩ hs hk.bytes
  rw [if_neg (by have := hk.fits; omega)] at hch
  have d4 : w.cell? ⟨P, 4, none⟩ = some (.pointer (some ⟨root, 0, none⟩)) := cl_of h.head 4
  have HCH := Lib.hid hch
  have HD4 := Lib.hid d4
  have HNN : Hid (N ≤ 1000000000) := Lib.hid (by have := h.num; omega)
  have HH := Lib.hid h
  have HK := Lib.hid hk
  have HS := Lib.hid hs
  have HX := Lib.hid hx
  clear hch h hk hs d4 hx
  go_enter Try.func12, Try.ntmps12
  go_wp2_with fail
  refine HCH.out.mono ?_
  rintro e w1 ⟨rfl, hb1⟩
  have HB1 := Lib.hid hb1
  clear hb1
  go_upto_region 4 with fail
  have HS0 : Hid (∀ wx, But [] w1 wx → wx.cell? ⟨P, 4, none⟩ = some (.pointer (some ⟨root, 0, none⟩))) := Lib.hid fun wx hx => cell_but (HB1.out.trans hx (by simp)) HD4.out (by simp)
  have d4 := HS0.out w1 (But.refl _ _)
  have HREACH : Hid (∀ wx, But [] w1 wx → ∀ P0, wx.heap[P0]? = some (.cells #[.slice (some ad) ks.length cp] 26) → Calls Try.prog 35 #[.pointer (some ⟨root, 0, none⟩), .func (.func 54) #[] #[.pointer (some ⟨P0, 0, none⟩)], .bool false] wx fun e w' => e = .returned (pv (nd (kbits ks))) ∧ But [] wx w') := Lib.hid fun wx hb P0 hP0 => by
    have hbw := HB1.out.trans hb (by simp)
    exact callsIn_wide.1 (reach_no P0 ad cp ks wx nd xs root ((HH.out.new hbw).tree) HH.out.rt hP0 (HS.out.but hbw (by simp)) HK.out)
  go_region_held3 (fun wx => wx.cell? ⟨P, 4, none⟩ = some (.pointer (some ⟨root, 0, none⟩))) (exact HS0.out _ (by repeat (first | assumption | exact But.refl _ _ | refine But.drew ?_ | refine But.alloc ?_ _))) (first
    | (go_at_call 36; (with_reducible refine (bits_c _ _ _ _).mono ?_); rintro e w7 ⟨rfl, rfl⟩)
    | (go_at_call 35; (with_reducible refine (HREACH.out _ (by repeat (first | exact But.refl _ _ | refine But.drew ?_ | refine But.alloc ?_ _)) _ (by first | exact al_drew _ _ | exact al_at _ _)).mono ?_); rintro e w8 ⟨rfl, h8⟩; have h81 : But [] w1 w8 := (by repeat (first | exact But.refl _ _ | refine But.drew ?_ | refine But.alloc ?_ _) : But [] w1 _).trans h8 (by simp); have hk8 := HS0.out w8 h81; have H8 := Lib.hid h81; clear h8 h81))
  have HB8 : Hid (But [] w w8) := Lib.hid (HB1.out.trans H8.out (by simp))
  clear HCH HREACH HS0 HD4
  obtain ⟨b, hq⟩ := HH.out.tree.ent _ _ HX.out
  have h9 := HH.out.new HB8.out
  have n2 : w8.cell? ⟨b, 2, none⟩ = some (pv (xs (kbits ks))) := cl_of (h9.tree.cell _ b hq) 2
  rw [HX.out] at n2
  rw [hq]
  unfold pv at n2 ⊢
  simp only [Option.map_some] at n2 ⊢
  have HQ := Lib.hid hq
  have HU := Lib.hid h9.used
  have p2 : w8.cell? ⟨P, 2, none⟩ = some (.int .i64 V) := cl_of h9.head 2
  have p5 : w8.cell? ⟨P, 5, none⟩ = some (.slice (some ⟨U, 0, none⟩) N N) := cl_of h9.head 5
  have H9 := Lib.hid h9
  clear hq h9 d4 hk8
  go_wp2_with fail
  refine (index_c U N f w8 HU.out HNN.out).mono ?_
  rintro e w9 ⟨rfl, rfl⟩
  go_wp2_with fail
  go_ret
  exact ⟨rfl, HB8.out⟩
set_option maxRecDepth 100000 in
set_option maxHeartbeats 4000000 in
theorem upd_none {w : World} {P root U Rm K V N : Nat} {nd xs : Path → Option Nat} {pl kb : Nat → Nat} {f : Nat → Bool} {g : Nat → Nat} {rows : List (List Int)} (h : TrieS w P root U Rm K V N nd xs pl kb f g rows) (ad : Addr) (cp : Nat) (ks : List Int) (hn : ks.length = K) (hk : KeyOk ks) (hs : Sees w (.slice (some ad) ks.length cp) (u8s ks)) (va : Option Addr) (vn vc : Nat) (fl : Int) (hx : xs (kbits ks) = none) (hv : ((vn : Int) == (V : Int)) = true) (hf : decide ((2 : Int) < (2 : Int)) = false) :
    Calls Try.prog 12 #[.pointer (some ⟨P, 0, none⟩), .slice (some ad) ks.length cp, .slice va vn vc, .int .u64 2] w fun e w' => e = .returned (.int .i64 6) ∧ But [] w w' := by
  subst hn
  have hch := check_w h.head ad cp ks rfl ⟨hk.four, hk.long⟩ hs hk.bytes
  rw [if_neg (by have := hk.fits; omega)] at hch
  have d4 : w.cell? ⟨P, 4, none⟩ = some (.pointer (some ⟨root, 0, none⟩)) := cl_of h.head 4
  have HCH := Lib.hid hch
  have HD4 := Lib.hid d4
  have HNN : Hid (N ≤ 1000000000) := Lib.hid (by have := h.num; omega)
  have HH := Lib.hid h
  have HK := Lib.hid hk
  have HS := Lib.hid hs
  have HX := Lib.hid hx
  clear hch h hk hs d4 hx
  go_enter Try.func12, Try.ntmps12
  go_wp2_with fail
  refine HCH.out.mono ?_
  rintro e w1 ⟨rfl, hb1⟩
  have HB1 := Lib.hid hb1
  clear hb1
  go_upto_region 4 with fail
  have HS0 : Hid (∀ wx, But [] w1 wx → wx.cell? ⟨P, 4, none⟩ = some (.pointer (some ⟨root, 0, none⟩))) := Lib.hid fun wx hx => cell_but (HB1.out.trans hx (by simp)) HD4.out (by simp)
  have d4 := HS0.out w1 (But.refl _ _)
  have HREACH : Hid (∀ wx, But [] w1 wx → ∀ P0, wx.heap[P0]? = some (.cells #[.slice (some ad) ks.length cp] 26) → Calls Try.prog 35 #[.pointer (some ⟨root, 0, none⟩), .func (.func 54) #[] #[.pointer (some ⟨P0, 0, none⟩)], .bool false] wx fun e w' => e = .returned (pv (nd (kbits ks))) ∧ But [] wx w') := Lib.hid fun wx hb P0 hP0 => by
    have hbw := HB1.out.trans hb (by simp)
    exact callsIn_wide.1 (reach_no P0 ad cp ks wx nd xs root ((HH.out.new hbw).tree) HH.out.rt hP0 (HS.out.but hbw (by simp)) HK.out)
  go_region_held3 (fun wx => wx.cell? ⟨P, 4, none⟩ = some (.pointer (some ⟨root, 0, none⟩))) (exact HS0.out _ (by repeat (first | assumption | exact But.refl _ _ | refine But.drew ?_ | refine But.alloc ?_ _))) (first
    | (go_at_call 36; (with_reducible refine (bits_c _ _ _ _).mono ?_); rintro e w7 ⟨rfl, rfl⟩)
    | (go_at_call 35; (with_reducible refine (HREACH.out _ (by repeat (first | exact But.refl _ _ | refine But.drew ?_ | refine But.alloc ?_ _)) _ (by first | exact al_drew _ _ | exact al_at _ _)).mono ?_); rintro e w8 ⟨rfl, h8⟩; have h81 : But [] w1 w8 := (by repeat (first | exact But.refl _ _ | refine But.drew ?_ | refine But.alloc ?_ _) : But [] w1 _).trans h8 (by simp); have hk8 := HS0.out w8 h81; have H8 := Lib.hid h81; clear h8 h81))
  have HB8 : Hid (But [] w w8) := Lib.hid (HB1.out.trans H8.out (by simp))
  clear HCH HREACH HS0 HD4
  have h9 := HH.out.new HB8.out
  cases hq : nd (kbits ks) with
  | none =>
    unfold pv
    simp only [Option.map_none]
    have HU := Lib.hid h9.used
    have p2 : w8.cell? ⟨P, 2, none⟩ = some (.int .i64 V) := cl_of h9.head 2
    have p5 : w8.cell? ⟨P, 5, none⟩ = some (.slice (some ⟨U, 0, none⟩) N N) := cl_of h9.head 5
    have H9 := Lib.hid h9
    clear hq h9 d4 hk8
    go_wp2_with fail
    refine (index_c U N f w8 HU.out HNN.out).mono ?_
    rintro e w9 ⟨rfl, rfl⟩
    go_wp2_with fail
    go_ret
    exact ⟨rfl, HB8.out⟩
  | some b =>
    have n2 : w8.cell? ⟨b, 2, none⟩ = some (pv (xs (kbits ks))) := cl_of (h9.tree.cell _ b hq) 2
    rw [HX.out] at n2
    unfold pv at n2 ⊢
    simp only [Option.map_none, Option.map_some] at n2 ⊢
    have HU := Lib.hid h9.used
    have p2 : w8.cell? ⟨P, 2, none⟩ = some (.int .i64 V) := cl_of h9.head 2
    have p5 : w8.cell? ⟨P, 5, none⟩ = some (.slice (some ⟨U, 0, none⟩) N N) := cl_of h9.head 5
    have H9 := Lib.hid h9
    clear hq h9 d4 hk8
    go_wp2_with fail
    refine (index_c U N f w8 HU.out HNN.out).mono ?_
    rintro e w9 ⟨rfl, rfl⟩
    go_wp2_with fail
    go_ret
    exact ⟨rfl, HB8.out⟩
set_option maxRecDepth 100000 in
set_option maxHeartbeats 4000000 in
theorem upd_full {w : World} {P root U Rm K V N : Nat} {nd xs : Path → Option Nat} {pl kb : Nat → Nat} {f : Nat → Bool} {g : Nat → Nat} {rows : List (List Int)} (h : TrieS w P root U Rm K V N nd xs pl kb f g rows) (ad : Addr) (cp : Nat) (ks : List Int) (hn : ks.length = K) (hk : KeyOk ks) (hs : Sees w (.slice (some ad) ks.length cp) (u8s ks)) (va : Option Addr) (vn vc : Nat) (fl : Int) (hx : xs (kbits ks) = none) (hv : ((vn : Int) == (V : Int)) = true) (hf : decide ((2 : Int) < fl) = false) (hf2 : (fl == 2) = false) (hfr : freeI f N = none) :
    Calls Try.prog 12 #[.pointer (some ⟨P, 0, none⟩), .slice (some ad) ks.length cp, .slice va vn vc, .int .u64 fl] w fun e w' => e = .returned (.int .i64 8) ∧ But [] w w' := by
  subst hn
  have hch := check_w h.head ad cp ks rfl ⟨hk.four, hk.long⟩ hs hk.bytes
  rw [if_neg (by have := hk.fits; omega)] at hch
  have d4 : w.cell? ⟨P, 4, none⟩ = some (.pointer (some ⟨root, 0, none⟩)) := cl_of h.head 4
  have HCH := Lib.hid hch
  have HD4 := Lib.hid d4
  have HNN : Hid (N ≤ 1000000000) := Lib.hid (by have := h.num; omega)
  have HH := Lib.hid h
  have HK := Lib.hid hk
  have HS := Lib.hid hs
  have HX := Lib.hid hx
  clear hch h hk hs d4 hx
  go_enter Try.func12, Try.ntmps12
  go_wp2_with fail
  refine HCH.out.mono ?_
  rintro e w1 ⟨rfl, hb1⟩
  have HB1 := Lib.hid hb1
  clear hb1
  go_upto_region 4 with fail
  have HS0 : Hid (∀ wx, But [] w1 wx → wx.cell? ⟨P, 4, none⟩ = some (.pointer (some ⟨root, 0, none⟩))) := Lib.hid fun wx hx => cell_but (HB1.out.trans hx (by simp)) HD4.out (by simp)
  have d4 := HS0.out w1 (But.refl _ _)
  have HREACH : Hid (∀ wx, But [] w1 wx → ∀ P0, wx.heap[P0]? = some (.cells #[.slice (some ad) ks.length cp] 26) → Calls Try.prog 35 #[.pointer (some ⟨root, 0, none⟩), .func (.func 54) #[] #[.pointer (some ⟨P0, 0, none⟩)], .bool false] wx fun e w' => e = .returned (pv (nd (kbits ks))) ∧ But [] wx w') := Lib.hid fun wx hb P0 hP0 => by
    have hbw := HB1.out.trans hb (by simp)
    exact callsIn_wide.1 (reach_no P0 ad cp ks wx nd xs root ((HH.out.new hbw).tree) HH.out.rt hP0 (HS.out.but hbw (by simp)) HK.out)
  go_region_held3 (fun wx => wx.cell? ⟨P, 4, none⟩ = some (.pointer (some ⟨root, 0, none⟩))) (exact HS0.out _ (by repeat (first | assumption | exact But.refl _ _ | refine But.drew ?_ | refine But.alloc ?_ _))) (first
    | (go_at_call 36; (with_reducible refine (bits_c _ _ _ _).mono ?_); rintro e w7 ⟨rfl, rfl⟩)
    | (go_at_call 35; (with_reducible refine (HREACH.out _ (by repeat (first | exact But.refl _ _ | refine But.drew ?_ | refine But.alloc ?_ _)) _ (by first | exact al_drew _ _ | exact al_at _ _)).mono ?_); rintro e w8 ⟨rfl, h8⟩; have h81 : But [] w1 w8 := (by repeat (first | exact But.refl _ _ | refine But.drew ?_ | refine But.alloc ?_ _) : But [] w1 _).trans h8 (by simp); have hk8 := HS0.out w8 h81; have H8 := Lib.hid h81; clear h8 h81))
  have HB8 : Hid (But [] w w8) := Lib.hid (HB1.out.trans H8.out (by simp))
  clear HCH HREACH HS0 HD4
  have h9 := HH.out.new HB8.out
  cases hq : nd (kbits ks) with
  | none =>
    unfold pv
    simp only [Option.map_none]
    have HU := Lib.hid h9.used
    have p2 : w8.cell? ⟨P, 2, none⟩ = some (.int .i64 V) := cl_of h9.head 2
    have p5 : w8.cell? ⟨P, 5, none⟩ = some (.slice (some ⟨U, 0, none⟩) N N) := cl_of h9.head 5
    have H9 := Lib.hid h9
    clear hq h9 d4 hk8
    go_wp2_with fail
    refine (index_c U N f w8 HU.out HNN.out).mono ?_
    rintro e w9 ⟨rfl, rfl⟩
    rw [hfr]
    unfold freeV
    go_wp2_with fail
    go_ret
    exact ⟨rfl, HB8.out⟩
  | some b =>
    have n2 : w8.cell? ⟨b, 2, none⟩ = some (pv (xs (kbits ks))) := cl_of (h9.tree.cell _ b hq) 2
    rw [HX.out] at n2
    unfold pv at n2 ⊢
    simp only [Option.map_none, Option.map_some] at n2 ⊢
    have HU := Lib.hid h9.used
    have p2 : w8.cell? ⟨P, 2, none⟩ = some (.int .i64 V) := cl_of h9.head 2
    have p5 : w8.cell? ⟨P, 5, none⟩ = some (.slice (some ⟨U, 0, none⟩) N N) := cl_of h9.head 5
    have H9 := Lib.hid h9
    clear hq h9 d4 hk8
    go_wp2_with fail
    refine (index_c U N f w8 HU.out HNN.out).mono ?_
    rintro e w9 ⟨rfl, rfl⟩
    rw [hfr]
    unfold freeV
    go_wp2_with fail
    go_ret
    exact ⟨rfl, HB8.out⟩
end Go.Proofs.Ytpoinhfkgnkedaa.M
namespace Go.Proofs.Ytpoinhfkgnkedaa.M
open Go.RowKit Go.Shelf
set_option linter.unusedVariables false
set_option linter.unusedSectionVars false
set_option linter.unusedSimpArgs false
theorem sees_num {w : World} {va : Option Addr} {vn vc : Nat} {l : List Int} (h : Sees w (.slice va vn vc) (u8s l)) : vn = l.length := by
  rcases h with ⟨h, he⟩ | ⟨ad, c, h, hc, hx⟩
  · cases h
    have := congrArg List.length he
    rw [u8s_len] at this
    simp only [List.length_nil] at this
    omega
  · simp only [Value.slice.injEq] at h
    rw [← u8s_len l]; exact h.2.1
theorem freeI_some {f : Nat → Bool} {N p : Nat} (h : freeI f N = some p) : p < N ∧ f p = false := by
  unfold freeI at h
  have h1 := List.mem_of_find?_eq_some h
  have h2 := List.find?_some h
  rw [List.mem_range] at h1
  exact ⟨h1, by simpa using h2⟩
theorem splice_full (a b : List Value) (h : a.length = b.length) : splice a 0 b = b := by
  unfold splice
  simp [h]
set_option maxRecDepth 100000 in
set_option maxHeartbeats 4000000 in
theorem upd_hit {w : World} {P root U Rm K V N : Nat} {nd xs : Path → Option Nat} {pl kb : Nat → Nat} {f : Nat → Bool} {g : Nat → Nat} {rows : List (List Int)} (h : TrieS w P root U Rm K V N nd xs pl kb f g rows) (ad : Addr) (cp : Nat) (ks : List Int) (hn : ks.length = K) (hk : KeyOk ks) (hs : Sees w (.slice (some ad) ks.length cp) (u8s ks)) (va : Option Addr) (vn vc : Nat) (fl : Int) {e0 : Nat} (hx : xs (kbits ks) = some e0) (vs : List Int) (hvl : vs.length = V) (hvb : ByteL vs) (hsv : Sees w (.slice va vn vc) (u8s vs)) (hf : decide ((2 : Int) < fl) = false) (hf1 : (fl == 1) = false) :
    Calls Try.prog 12 #[.pointer (some ⟨P, 0, none⟩), .slice (some ad) ks.length cp, .slice va vn vc, .int .u64 fl] w fun e w' => e = .returned (.int .i64 0) ∧ TrieS w' P root U Rm K V N nd xs pl kb f g (rows.set (pl e0) vs) ∧ But [g (pl e0)] w w' := by
  subst hn
  have hch := check_w h.head ad cp ks rfl ⟨hk.four, hk.long⟩ hs hk.bytes
  rw [if_neg (by have := hk.fits; omega)] at hch
  have d4 : w.cell? ⟨P, 4, none⟩ = some (.pointer (some ⟨root, 0, none⟩)) := cl_of h.head 4
  have HCH := Lib.hid hch
  have HD4 := Lib.hid d4
  have HNN : Hid (N ≤ 1000000000) := Lib.hid (by have := h.num; omega)
  have HH := Lib.hid h
  have HK := Lib.hid hk
  have HS := Lib.hid hs
  have HX := Lib.hid hx
  have HSV := Lib.hid hsv
  have HVL := Lib.hid hvl
  have HVB := Lib.hid hvb
  have hvn := sees_num hsv
  subst hvn
  have hv : ((vs.length : Int) == (V : Int)) = true := by rw [beq_iff_eq, hvl]
  clear hsv hvl hvb
  clear hch h hk hs d4 hx
  go_enter Try.func12, Try.ntmps12
  go_wp2_with fail
  refine HCH.out.mono ?_
  rintro e w1 ⟨rfl, hb1⟩
  have HB1 := Lib.hid hb1
  clear hb1
  go_upto_region 4 with fail
  have HS0 : Hid (∀ wx, But [] w1 wx → wx.cell? ⟨P, 4, none⟩ = some (.pointer (some ⟨root, 0, none⟩))) := Lib.hid fun wx hx => cell_but (HB1.out.trans hx (by simp)) HD4.out (by simp)
  have d4 := HS0.out w1 (But.refl _ _)
  have HREACH : Hid (∀ wx, But [] w1 wx → ∀ P0, wx.heap[P0]? = some (.cells #[.slice (some ad) ks.length cp] 26) → Calls Try.prog 35 #[.pointer (some ⟨root, 0, none⟩), .func (.func 54) #[] #[.pointer (some ⟨P0, 0, none⟩)], .bool false] wx fun e w' => e = .returned (pv (nd (kbits ks))) ∧ But [] wx w') := Lib.hid fun wx hb P0 hP0 => by
    have hbw := HB1.out.trans hb (by simp)
    exact callsIn_wide.1 (reach_no P0 ad cp ks wx nd xs root ((HH.out.new hbw).tree) HH.out.rt hP0 (HS.out.but hbw (by simp)) HK.out)
  go_region_held3 (fun wx => wx.cell? ⟨P, 4, none⟩ = some (.pointer (some ⟨root, 0, none⟩))) (exact HS0.out _ (by repeat (first | assumption | exact But.refl _ _ | refine But.drew ?_ | refine But.alloc ?_ _))) (first
    | (go_at_call 36; (with_reducible refine (bits_c _ _ _ _).mono ?_); rintro e w7 ⟨rfl, rfl⟩)
    | (go_at_call 35; (with_reducible refine (HREACH.out _ (by repeat (first | exact But.refl _ _ | refine But.drew ?_ | refine But.alloc ?_ _)) _ (by first | exact al_drew _ _ | exact al_at _ _)).mono ?_); rintro e w8 ⟨rfl, h8⟩; have h81 : But [] w1 w8 := (by repeat (first | exact But.refl _ _ | refine But.drew ?_ | refine But.alloc ?_ _) : But [] w1 _).trans h8 (by simp); have hk8 := HS0.out w8 h81; have H8 := Lib.hid h81; clear h8 h81))
  have HB8 : Hid (But [] w w8) := Lib.hid (HB1.out.trans H8.out (by simp))
  clear HCH HREACH HS0 HD4
  obtain ⟨b, hq⟩ := HH.out.tree.ent _ _ HX.out
  have h9 := HH.out.new HB8.out
  have n2 : w8.cell? ⟨b, 2, none⟩ = some (pv (xs (kbits ks))) := cl_of (h9.tree.cell _ b hq) 2
  rw [HX.out] at n2
  rw [hq]
  unfold pv at n2 ⊢
  simp only [Option.map_some] at n2 ⊢
  have HQ := Lib.hid hq
  have HU := Lib.hid h9.used
  have p2 : w8.cell? ⟨P, 2, none⟩ = some (.int .i64 V) := cl_of h9.head 2
  have p5 : w8.cell? ⟨P, 5, none⟩ = some (.slice (some ⟨U, 0, none⟩) N N) := cl_of h9.head 5
  have H9 := Lib.hid h9
  clear hq h9 d4 hk8
  go_wp2_with fail
  refine (index_c U N f w8 HU.out HNN.out).mono ?_
  rintro e w9 ⟨rfl, rfl⟩
  have hpl := H9.out.plt _ _ HX.out
  obtain ⟨D, hD, hDs, hDc⟩ := id H9.out.room
  obtain ⟨r0, hr0⟩ : ∃ r0, rows[pl e0]? = some r0 := ⟨_, List.getElem?_eq_getElem (by rw [H9.out.rows.1]; exact hpl)⟩
  obtain ⟨hrow, hrl, hrb⟩ := H9.out.rows.2 _ _ hr0
  have p6 : w8.cell? ⟨P, 6, none⟩ = some (.slice (some ⟨Rm, 0, none⟩) N N) := cl_of H9.out.head 6
  have e1 : w8.cell? ⟨e0, 1, none⟩ = some (.int .i64 (pl e0 : Nat)) := cl_of (H9.out.ent _ _ HX.out) 1
  have r1 : w8.cell? ⟨Rm, pl e0, none⟩ = some (.slice (some ⟨g (pl e0), 0, none⟩) V V) := (cl_of hD _).trans (hDc _ hpl)
  have hlt1 : ((pl e0 : Nat) : Int) < (N : Int) := by omega
  have hlt0 : (0 : Int) ≤ ((pl e0 : Nat) : Int) := by omega
  have HROW : Hid (w8.drew.heap[g (pl e0)]? = some (.cells (u8s r0).toArray 5 (0, 0))) := Lib.hid hrow
  have HSV8 : Hid (Sees w8.drew (.slice va vs.length vc) (u8s vs)) := Lib.hid (HSV.out.but HB8.out.drew (by simp))
  have HRL : Hid (r0.length = V) := Lib.hid hrl
  have HPL := Lib.hid hpl
  clear hD hDs hDc hr0 hrow hrl hrb hpl
  go_upto_region 19 with fail
  refine wp_region_tail9 14 (by kernel_rfl) (by kernel_rfl) ?_
  simp only [List.take_succ_cons, List.take_zero, List.drop_succ_cons, List.drop_zero]
  repeat still_step
  refine wpStill_nil ?_
  refine wpList_copy_but rfl (.tmp 107) (.tmp 108) 26 26 rfl 5 Try.underlying26 (by kernel_rfl) (some ⟨g (pl e0), 0, none⟩) va V V vs.length vc rfl rfl (g (pl e0)) 0 (u8s r0) 5 HROW.out (u8s vs) (by rw [u8s_len, HVL.out]; exact (Nat.min_self V).symm) (fun h => ⟨rfl, sees_src HSV8.out h⟩) (by rw [u8s_len, u8s_len, HRL.out, HVL.out]; omega) (u8s_one _) ?_
  intro w5 hg5 hb5
  rw [splice_full _ _ (by rw [u8s_len, u8s_len, HRL.out, HVL.out])] at hg5
  have HB5 : Hid (But [g (pl e0)] w8 w5) := Lib.hid (((But.refl _ _).drew).trans hb5 (fun x hx => .inl hx))
  have HG5 := Lib.hid hg5
  clear hg5 hb5
  go_wp2_with fail
  go_ret
  exact ⟨rfl, H9.out.setRow HPL.out HVL.out HVB.out HG5.out HB5.out, (HB8.out.mono (by simp)).trans HB5.out (fun x hx => .inl hx)⟩
set_option maxRecDepth 100000 in
set_option maxHeartbeats 4000000 in
theorem upd_new_a {w : World} {P root U Rm K V N : Nat} {nd xs : Path → Option Nat} {pl kb : Nat → Nat} {f : Nat → Bool} {g : Nat → Nat} {rows : List (List Int)} (h : TrieS w P root U Rm K V N nd xs pl kb f g rows) (ad : Addr) (cp : Nat) (ks : List Int) (hn : ks.length = K) (hk : KeyOk ks) (hs : Sees w (.slice (some ad) ks.length cp) (u8s ks)) (va : Option Addr) (vn vc : Nat) (fl : Int) (had : ∀ π c, nd π = some c → c ≠ ad.block) (hav : ∀ b, Value.ownBlock (.slice va vn vc) = some b → ¬ ((∃ ρ, nd ρ = some b) ∨ b = U)) (hq : nd (kbits ks) = none) (hx : xs (kbits ks) = none) (vs : List Int) (hvl : vs.length = V) (hvb : ByteL vs) (hsv : Sees w (.slice va vn vc) (u8s vs)) (hf : decide ((2 : Int) < fl) = false) (hf2 : (fl == 2) = false) {p : Nat} (hfr : freeI f N = some p) :
    Calls Try.prog 12 #[.pointer (some ⟨P, 0, none⟩), .slice (some ad) ks.length cp, .slice va vn vc, .int .u64 fl] w fun e w' => e = .returned (.int .i64 0) ∧ ∃ nd' e1 q1, TrieS w' P root U Rm K V N nd' (plus xs (kbits ks) e1) (upd pl e1 p) (upd kb e1 q1) (upd f p true) g (rows.set p vs) ∧ (∀ π c, nd' π = some c → nd π = some c ∨ w.heap.size ≤ c) ∧ w.heap.size ≤ e1 ∧ w.heap.size ≤ q1 ∧ ∃ L, (∀ x ∈ L, ((∃ ρ, nd ρ = some x) ∨ x = U) ∨ x = g p) ∧ But L w w' := by
  subst hn
  have hch := check_w h.head ad cp ks rfl ⟨hk.four, hk.long⟩ hs hk.bytes
  rw [if_neg (by have := hk.fits; omega)] at hch
  have d4 : w.cell? ⟨P, 4, none⟩ = some (.pointer (some ⟨root, 0, none⟩)) := cl_of h.head 4
  have HCH := Lib.hid hch
  have HD4 := Lib.hid d4
  have HNN : Hid (N ≤ 1000000000) := Lib.hid (by have := h.num; omega)
  have HH := Lib.hid h
  have HK := Lib.hid hk
  have HS := Lib.hid hs
  have HX := Lib.hid hx
  have HSV := Lib.hid hsv
  have HVL := Lib.hid hvl
  have HVB := Lib.hid hvb
  have hvn := sees_num hsv
  subst hvn
  have hv : ((vs.length : Int) == (V : Int)) = true := by rw [beq_iff_eq, hvl]
  clear hsv hvl hvb
  have HAD : Hid (∀ π c, nd π = some c → c ≠ ad.block) := Lib.hid had
  have HQN := Lib.hid hq
  clear had hq
  have HAV := Lib.hid hav
  clear hav
  clear hch h hk hs d4 hx
  go_enter Try.func12, Try.ntmps12
  go_wp2_with fail
  refine HCH.out.mono ?_
  rintro e w1 ⟨rfl, hb1⟩
  have HB1 := Lib.hid hb1
  clear hb1
  go_upto_region 4 with fail
  have HS0 : Hid (∀ wx, But [] w1 wx → wx.cell? ⟨P, 4, none⟩ = some (.pointer (some ⟨root, 0, none⟩))) := Lib.hid fun wx hx => cell_but (HB1.out.trans hx (by simp)) HD4.out (by simp)
  have d4 := HS0.out w1 (But.refl _ _)
  have HREACH : Hid (∀ wx, But [] w1 wx → ∀ P0, wx.heap[P0]? = some (.cells #[.slice (some ad) ks.length cp] 26) → Calls Try.prog 35 #[.pointer (some ⟨root, 0, none⟩), .func (.func 54) #[] #[.pointer (some ⟨P0, 0, none⟩)], .bool false] wx fun e w' => e = .returned (pv (nd (kbits ks))) ∧ But [] wx w') := Lib.hid fun wx hb P0 hP0 => by
    have hbw := HB1.out.trans hb (by simp)
    exact callsIn_wide.1 (reach_no P0 ad cp ks wx nd xs root ((HH.out.new hbw).tree) HH.out.rt hP0 (HS.out.but hbw (by simp)) HK.out)
  go_region_held3 (fun wx => wx.cell? ⟨P, 4, none⟩ = some (.pointer (some ⟨root, 0, none⟩))) (exact HS0.out _ (by repeat (first | assumption | exact But.refl _ _ | refine But.drew ?_ | refine But.alloc ?_ _))) (first
    | (go_at_call 36; (with_reducible refine (bits_c _ _ _ _).mono ?_); rintro e w7 ⟨rfl, rfl⟩)
    | (go_at_call 35; (with_reducible refine (HREACH.out _ (by repeat (first | exact But.refl _ _ | refine But.drew ?_ | refine But.alloc ?_ _)) _ (by first | exact al_drew _ _ | exact al_at _ _)).mono ?_); rintro e w8 ⟨rfl, h8⟩; have h81 : But [] w1 w8 := (by repeat (first | exact But.refl _ _ | refine But.drew ?_ | refine But.alloc ?_ _) : But [] w1 _).trans h8 (by simp); have hk8 := HS0.out w8 h81; have H8 := Lib.hid h81; clear h8 h81))
  have HB8 : Hid (But [] w w8) := Lib.hid (HB1.out.trans H8.out (by simp))
  clear HCH HREACH HS0 HD4
  have h9 := HH.out.new HB8.out
  rw [HQN.out]
  unfold pv
  simp only [Option.map_none]
  have HU := Lib.hid h9.used
  have p2 : w8.cell? ⟨P, 2, none⟩ = some (.int .i64 V) := cl_of h9.head 2
  have p5 : w8.cell? ⟨P, 5, none⟩ = some (.slice (some ⟨U, 0, none⟩) N N) := cl_of h9.head 5
  have H9 := Lib.hid h9
  clear h9 d4 hk8
  go_wp2_with fail
  refine (index_c U N f w8 HU.out HNN.out).mono ?_
  rintro e w9 ⟨rfl, rfl⟩
  rw [hfr]
  unfold freeV
  have HFR : Hid (freeI f N = some p) := Lib.hid hfr
  go_wp2_with fail
  have d4 : w8.cell? ⟨P, 4, none⟩ = some (.pointer (some ⟨root, 0, none⟩)) := cl_of H9.out.head 4
  have HREACH : Hid (∀ wx, But [] w8 wx → ∀ P0, wx.heap[P0]? = some (.cells #[.slice (some ad) ks.length cp] 26) → w8.heap.size ≤ P0 → Calls Try.prog 35 #[.pointer (some ⟨root, 0, none⟩), .func (.func 54) #[] #[.pointer (some ⟨P0, 0, none⟩)], .bool true] wx fun e w' => ∃ nd' b', e = .returned (.pointer (some ⟨b', 0, none⟩)) ∧ nd' (kbits ks) = some b' ∧ (∀ π c, nd' π = some c → nd π = some c ∨ w8.heap.size ≤ c) ∧ (∃ L, (∀ x ∈ L, ∃ ρ, nd ρ = some x) ∧ But L w8 w') ∧ TrieS w' P root U Rm ks.length V N nd' xs pl kb f g rows) := Lib.hid fun wx hb P0 hP0 hlo => by
    have hx := H9.out.new hb
    have hsz := hb.size
    refine (callsIn_wide.1 (reach_yes P0 ad cp ks wx nd xs root hx.tree hx.rt hP0 (HS.out.but (HB8.out.trans hb (by simp)) (by simp)) HK.out (fun π c hc => ⟨fun e => by
      have := H9.out.tree.lt hc
      omega, ?_⟩))).mono ?_
    · exact HAD.out π c hc
    · rintro e w' ⟨nd', rfl, hG⟩
      obtain ⟨b', hb'⟩ := hG.here
      obtain ⟨L, hL, hbL⟩ := hG.but
      exact ⟨nd', b', by rw [hb']; rfl, hb', fun π c hc => (hG.new π c hc).imp id (fun h => by omega), ⟨L, hL, (hb.mono (by simp)).trans hbL (fun x hx => .inl hx)⟩, hx.grown hG⟩
  have HS8 : Hid (∀ wx, But [] w8 wx → wx.cell? ⟨P, 4, none⟩ = some (.pointer (some ⟨root, 0, none⟩))) := Lib.hid fun wx hx => cell_but hx (cl_of H9.out.head 4) (by simp)
  go_region_held3 (fun wx => wx.cell? ⟨P, 4, none⟩ = some (.pointer (some ⟨root, 0, none⟩))) (first | assumption | exact HS8.out _ (by repeat (first | exact But.refl _ _ | refine But.drew ?_ | refine But.alloc ?_ _))) (first
    | (go_at_call 36; (with_reducible refine (bits_c _ _ _ _).mono ?_); rintro e w10 ⟨rfl, rfl⟩)
    | (go_at_call 35; (with_reducible refine (HREACH.out _ (by repeat (first | exact But.refl _ _ | refine But.drew ?_ | refine But.alloc ?_ _)) _ (by first | exact al_drew _ _ | exact al_at _ _) (Nat.le_refl _)).mono ?_); rintro e w11 ⟨nd', b', rfl, hb', hnew, hbl, h11⟩; have hk11 : w11.cell? ⟨P, 4, none⟩ = some (.pointer (some ⟨root, 0, none⟩)) := cl_of h11.head 4; have HB' := Lib.hid hb'; have HNEW := Lib.hid hnew; have HBL := Lib.hid hbl; have H11 := Lib.hid h11; clear hb' hnew hbl h11))
  clear d4 p2 p5 hk11
  have hbw11 : ∃ L, (∀ x ∈ L, ∃ ρ, nd ρ = some x) ∧ But L w w11 := by
    obtain ⟨L, hL, hb⟩ := HBL.out
    exact ⟨L, hL, (HB8.out.mono (by simp)).trans hb (fun x hx => .inl hx)⟩
  have HBW := Lib.hid hbw11
  have HS11 : Hid (Sees w11 (.slice (some ad) ks.length cp) (u8s ks)) := Lib.hid (by
    obtain ⟨L, hL, hb⟩ := HBW.out
    exact HS.out.but hb (fun k hk hm => by cases hk; obtain ⟨ρ, hρ⟩ := hL _ hm; exact HAD.out _ _ hρ rfl))
  clear hbw11
  have hfp : p < N ∧ f p = false := freeI_some HFR.out
  obtain ⟨hpN, hfp⟩ := hfp
  obtain ⟨C, hC, hCs, hCc⟩ := id H11.out.used
  have hcell := H11.out.tree.cell _ _ HB'.out
  rw [HX.out] at hcell
  have q2 : w11.cell? ⟨b', 2, none⟩ = some (.pointer none) := cl_of hcell 2
  have q2f : w11.frozen? ⟨b', 2, none⟩ = false := fz_of hcell 2
  have u1 : w11.cell? ⟨U, p, none⟩ = some (.bool (f p)) := (cl_of hC _).trans (hCc _ hpN)
  have u1f : w11.frozen? ⟨U, p, none⟩ = false := fz_of hC _
  have hbU : b' ≠ U := (H11.out.notNode ⟨_, HB'.out⟩).2.1
  have p5 : w11.cell? ⟨P, 5, none⟩ = some (.slice (some ⟨U, 0, none⟩) N N) := cl_of H11.out.head 5
  have hlt1 : ((p : Nat) : Int) < (N : Int) := by omega
  have hPL : Hid (∀ wx, But [] w11 wx → Calls Try.prog 38 #[.slice (some ad) ks.length cp] wx fun e w' => e = .returned (.slice (some ⟨wx.heap.size, 0, none⟩) ks.length ks.length) ∧ w'.heap[wx.heap.size]? = some (.cells (u8s (plainK ks)).toArray 5) ∧ But [] wx w' ∧ (w'.cell? ⟨P, 5, none⟩ = some (.slice (some ⟨U, 0, none⟩) N N) ∧ w'.cell? ⟨b', 2, none⟩ = some (.pointer none) ∧ w'.frozen? ⟨b', 2, none⟩ = false ∧ w'.cell? ⟨U, p, none⟩ = some (.bool (f p)) ∧ w'.frozen? ⟨U, p, none⟩ = false)) := Lib.hid fun wx hb => (callsIn_wide.1 (plain_w ad cp ks wx (HS11.out.but hb (by simp)) HK.out)).mono fun e w' ⟨h1, h2, h3⟩ => ⟨h1, h2, h3, cell_but (hb.trans h3 (by simp)) p5 (by simp), cell_but (hb.trans h3 (by simp)) q2 (by simp), fz_of ((hb.trans h3 (by simp)).heap hcell (by simp)) 2, cell_but (hb.trans h3 (by simp)) u1 (by simp), fz_of ((hb.trans h3 (by simp)).heap hC (by simp)) _⟩
  have hUb : U ≠ b' := hbU.symm
  have hbP : b' ≠ P := (H11.out.notNode ⟨_, HB'.out⟩).1
  have hPb : P ≠ b' := hbP.symm
  have hUP : U ≠ P := ne_type hC H11.out.head (by decide)
  have hPU : P ≠ U := hUP.symm
  have HC := Lib.hid (show ∃ C, w11.heap[U]? = some (.cells C 4 (0, 0)) ∧ C.size = N ∧ ∀ i, i < N → C[i]? = some (.bool (f i)) from ⟨C, hC, hCs, hCc⟩)
  have HCELL := Lib.hid hcell
  have HPN := Lib.hid hpN
  have HFP := Lib.hid hfp
  have HP5 : Hid (∀ wx, But [b', U] w11 wx → wx.cell? ⟨P, 5, none⟩ = some (.slice (some ⟨U, 0, none⟩) N N)) := Lib.hid fun wx hx => cell_but hx p5 (by simp; exact ⟨hPb, hPU⟩)
  clear hC hCs hCc hcell hpN hfp
  go_wp2_with fail
  go_region_held3 (fun wx => wx.cell? ⟨P, 5, none⟩ = some (.slice (some ⟨U, 0, none⟩) N N)) (first | assumption | exact HP5.out _ (by repeat (first | exact But.refl _ _ | (with_reducible exact H12B.out.mono (by simp)) | refine But.drew ?_ | refine But.alloc ?_ _ | refine But.setCell ?_ (.inl (by simp)) _)) | go_keep) (first
    | (go_at_call 38; (with_reducible refine (hPL.out _ (by repeat (first | exact But.refl _ _ | refine But.drew ?_ | refine But.alloc ?_ _))).mono ?_); rintro e w12 ⟨rfl, hrow, hb12, hk1, hk2, hk3, hk4, hk5⟩; have HROW12 := Lib.hid hrow; have H12B : Hid (But [] w11 w12) := Lib.hid (((But.refl _ _).drew).trans hb12 (by simp)); have hk2a : ∀ o, (w12.alloc o).cell? ⟨b', 2, none⟩ = some (.pointer none) := (fun o => cell_but ((But.refl [] _).alloc o) hk2 (by simp)); have hk3a : ∀ o, (w12.alloc o).frozen? ⟨b', 2, none⟩ = false := (fun o => fz_of (((But.refl _ _).drew.trans (hb12.alloc o) (by simp) : But [] w11 _).heap HCELL.out (by simp)) 2); have hk4a : ∀ o, (w12.alloc o).cell? ⟨U, p, none⟩ = some (.bool (f p)) := (fun o => cell_but ((But.refl [] _).alloc o) hk4 (by simp)); have hk5a : ∀ o, (w12.alloc o).frozen? ⟨U, p, none⟩ = false := (fun o => by obtain ⟨C, hC, _⟩ := HC.out; exact fz_of (((But.refl _ _).drew.trans (hb12.alloc o) (by simp) : But [] w11 _).heap hC (by simp)) _); clear hrow hb12))
  generalize hw13 : ((w12.alloc (.cells #[.slice (some ⟨w11.heap.size, 0, none⟩) ks.length ks.length, .int .i64 (p : Nat)] 70)).setCell ⟨b', 2, none⟩ (.pointer (some ⟨w12.heap.size, 0, none⟩))).setCell ⟨U, p, none⟩ (.bool true) = w13
  have HW13 := Lib.hid hw13.symm
  have hz12 := H12B.out.size
  have hbl : b' < w11.heap.size := H11.out.tree.lt HB'.out
  have hUl : U < w11.heap.size := lt_of HC.out.choose_spec.1
  have hb13 : But [b', U] w11 w13 := by rw [HW13.out]; exact (((H12B.out.mono (by simp)).alloc _).setCell (.inl (by simp)) _).setCell (.inl (by simp)) _
  have k1 : w13.heap[w11.heap.size]? = some (.cells (u8s (plainK ks)).toArray 5) := by
    rw [HW13.out, heap_setN (by omega), heap_setN (by omega)]
    exact al_keep HROW12.out _
  have k2 : w13.heap[w12.heap.size]? = some (.cells #[.slice (some ⟨w11.heap.size, 0, none⟩) ks.length ks.length, .int .i64 (p : Nat)] 70) := by
    rw [HW13.out, heap_setN (by omega), heap_setN (by omega)]
    exact al_at _ _
  have k3 : w13.heap[b']? = some (.cells (nodeCells (nd' (kbits ks ++ [0])) (nd' (kbits ks ++ [1])) (some w12.heap.size)) 67) := by
    have hc : (w12.alloc (.cells #[.slice (some ⟨w11.heap.size, 0, none⟩) ks.length ks.length, .int .i64 (p : Nat)] 70)).heap[b']? = _ := al_keep (H12B.out.heap HCELL.out (by simp)) _
    rw [HW13.out, heap_setN hUb, heap_setC hc]
    rfl
  have k4 : UsedW w13 U N (upd f p true) := by
    obtain ⟨C, hC, hCs, hCc⟩ := HC.out
    have hc : ((w12.alloc (.cells #[.slice (some ⟨w11.heap.size, 0, none⟩) ks.length ks.length, .int .i64 (p : Nat)] 70)).setCell ⟨b', 2, none⟩ (.pointer (some ⟨w12.heap.size, 0, none⟩))).heap[U]? = _ := (heap_setN hbU).trans (al_keep (H12B.out.heap hC (by simp)) _)
    refine ⟨C.set! p (.bool true), ?_, by simp [hCs], fun i hi => ?_⟩
    · rw [HW13.out, heap_setC hc]
    · by_cases ei : i = p
      · subst ei
        rw [upd_at]
        simp [hCs, HPN.out]
      · rw [upd_ne _ _ ei, ← hCc i hi]
        simp [Array.getElem?_setIfInBounds_ne (Ne.symm ei)]
  have h13 := H11.out.put HB'.out HX.out HPN.out HFP.out HK.out rfl rfl (Nat.le_refl _) hz12 k1 k2 k3 k4 hb13
  have hz8 := HB8.out.size
  obtain ⟨e0, he0⟩ : ∃ e0, e0 = w12.heap.size := ⟨_, rfl⟩
  obtain ⟨q0, hq0⟩ : ∃ q0, q0 = w11.heap.size := ⟨_, rfl⟩
  have hbT : ∃ L, (∀ x ∈ L, (∃ ρ, nd ρ = some x) ∨ x = U) ∧ But L w w13 := by
    obtain ⟨L, hL, hb⟩ := HBW.out
    rcases HNEW.out _ _ HB'.out with ho | ho
    · refine ⟨L ++ [b', U], fun x hx => ?_, hb.join hb13⟩
      rcases List.mem_append.1 hx with hx | hx
      · exact .inl (hL x hx)
      · simp only [List.mem_cons, List.not_mem_nil, or_false] at hx
        rcases hx with rfl | rfl
        · exact .inl ⟨_, ho⟩
        · exact .inr rfl
    · refine ⟨L ++ [U], fun x hx => ?_, (hb.mono (fun x hx => List.mem_append_left _ hx)).trans hb13 (fun x hx => ?_)⟩
      · rcases List.mem_append.1 hx with hx | hx
        · exact .inl (hL x hx)
        · simp only [List.mem_singleton] at hx
          exact .inr hx
      · simp only [List.mem_cons, List.not_mem_nil, or_false] at hx
        rcases hx with rfl | rfl
        · exact .inr (by omega)
        · exact .inl (by simp)
  have HBT := Lib.hid hbT
  have n2 : w13.cell? ⟨b', 2, none⟩ = some (.pointer (some ⟨e0, 0, none⟩)) := by rw [he0]; exact cl_of k3 2
  rw [← he0, ← hq0] at h13
  rw [← he0]
  have HE0 : Hid (w.heap.size ≤ e0 ∧ w.heap.size ≤ q0) := Lib.hid (by
    obtain ⟨L, hL, hb⟩ := HBW.out
    have := hb.size
    omega)
  obtain ⟨pl', hpl'⟩ : ∃ pl', pl' = upd pl e0 p := ⟨_, rfl⟩
  obtain ⟨xs', hxs'⟩ : ∃ xs', xs' = plus xs (kbits ks) e0 := ⟨_, rfl⟩
  have hple : pl' e0 = p := by rw [hpl', upd_at]
  have hxe : xs' (kbits ks) = some e0 := by rw [hxs', plus_at]
  rw [← hpl', ← hxs'] at h13
  have HPL' := Lib.hid hpl'
  have HXS' := Lib.hid hxs'
  have H13 := Lib.hid h13
  have HXE := Lib.hid hxe
  have HPLE := Lib.hid hple
  obtain ⟨D, hD, hDs, hDc⟩ := id H13.out.room
  have hpN := HPN.out
  obtain ⟨r0, hr0⟩ : ∃ r0, rows[p]? = some r0 := ⟨_, List.getElem?_eq_getElem (by rw [H13.out.rows.1]; exact hpN)⟩
  obtain ⟨hrow, hrl, hrb⟩ := H13.out.rows.2 _ _ hr0
  have p6 : w13.cell? ⟨P, 6, none⟩ = some (.slice (some ⟨Rm, 0, none⟩) N N) := cl_of H13.out.head 6
  have e1 : w13.cell? ⟨e0, 1, none⟩ = some (.int .i64 (p : Nat)) := by rw [← HPLE.out]; exact cl_of (H13.out.ent _ _ HXE.out) 1
  have r1 : w13.cell? ⟨Rm, p, none⟩ = some (.slice (some ⟨g p, 0, none⟩) V V) := (cl_of hD _).trans (hDc _ hpN)
  have hlt0 : (0 : Int) ≤ ((p : Nat) : Int) := by omega
  have HROW : Hid (w13.drew.heap[g p]? = some (.cells (u8s r0).toArray 5 (0, 0))) := Lib.hid hrow
  have HSVT : Hid (Sees w13.drew (.slice va vs.length vc) (u8s vs)) := Lib.hid (by
    obtain ⟨L, hL, hb⟩ := HBT.out
    exact HSV.out.but hb.drew (fun k hk hm => HAV.out k hk (hL k hm)))
  have HRL : Hid (r0.length = V) := Lib.hid hrl
  clear hD hDs hDc hr0 hrow hrl hrb hpN h13 hpl' hxs' hxe hple k1 k2 k3 k4 hb13 hbT hw13 hz12 hbl hUl hz8 he0 hq0 hk1 hk2 hk3 hk4 hk5 hk2a hk3a hk4a hk5a q2 q2f u1 u1f p5 hbU hUb hbP hPb hUP hPU
  go_upto_region 19 with fail
  refine wp_region_tail9 14 (by kernel_rfl) (by kernel_rfl) ?_
  simp only [List.take_succ_cons, List.take_zero, List.drop_succ_cons, List.drop_zero]
  repeat still_step
  refine wpStill_nil ?_
  refine wpList_copy_but rfl (.tmp 107) (.tmp 108) 26 26 rfl 5 Try.underlying26 (by kernel_rfl) (some ⟨g p, 0, none⟩) va V V vs.length vc rfl rfl (g p) 0 (u8s r0) 5 HROW.out (u8s vs) (by rw [u8s_len, HVL.out]; exact (Nat.min_self V).symm) (fun h => ⟨rfl, sees_src HSVT.out h⟩) (by rw [u8s_len, u8s_len, HRL.out, HVL.out]; omega) (u8s_one _) ?_
  intro w5 hg5 hb5
  rw [splice_full _ _ (by rw [u8s_len, u8s_len, HRL.out, HVL.out])] at hg5
  have HB5 : Hid (But [g p] w13 w5) := Lib.hid (((But.refl _ _).drew).trans hb5 (fun x hx => .inl hx))
  have HG5 := Lib.hid hg5
  clear hg5 hb5
  go_wp2_with fail
  go_ret
  have h5 := H13.out.setRow HPN.out HVL.out HVB.out HG5.out HB5.out
  rw [HPL'.out, HXS'.out] at h5
  refine ⟨rfl, nd', e0, q0, h5, fun π c hc => (HNEW.out π c hc).imp id (fun h => Nat.le_trans HB8.out.size h), HE0.out.1, HE0.out.2, ?_⟩
  obtain ⟨L, hL, hb⟩ := HBT.out
  refine ⟨L ++ [g p], fun x hx => ?_, hb.join HB5.out⟩
  rcases List.mem_append.1 hx with hx | hx
  · exact .inl (hL x hx)
  · exact .inr (by simpa using hx)
set_option maxRecDepth 100000 in
set_option maxHeartbeats 4000000 in
theorem upd_new_b {w : World} {P root U Rm K V N : Nat} {nd xs : Path → Option Nat} {pl kb : Nat → Nat} {f : Nat → Bool} {g : Nat → Nat} {rows : List (List Int)} (h : TrieS w P root U Rm K V N nd xs pl kb f g rows) (ad : Addr) (cp : Nat) (ks : List Int) (hn : ks.length = K) (hk : KeyOk ks) (hs : Sees w (.slice (some ad) ks.length cp) (u8s ks)) (va : Option Addr) (vn vc : Nat) (fl : Int) {b : Nat} (had : ∀ π c, nd π = some c → c ≠ ad.block) (hav : ∀ b, Value.ownBlock (.slice va vn vc) = some b → ¬ ((∃ ρ, nd ρ = some b) ∨ b = U)) (hq : nd (kbits ks) = some b) (hx : xs (kbits ks) = none) (vs : List Int) (hvl : vs.length = V) (hvb : ByteL vs) (hsv : Sees w (.slice va vn vc) (u8s vs)) (hf : decide ((2 : Int) < fl) = false) (hf2 : (fl == 2) = false) {p : Nat} (hfr : freeI f N = some p) :
    Calls Try.prog 12 #[.pointer (some ⟨P, 0, none⟩), .slice (some ad) ks.length cp, .slice va vn vc, .int .u64 fl] w fun e w' => e = .returned (.int .i64 0) ∧ ∃ nd' e1 q1, TrieS w' P root U Rm K V N nd' (plus xs (kbits ks) e1) (upd pl e1 p) (upd kb e1 q1) (upd f p true) g (rows.set p vs) ∧ (∀ π c, nd' π = some c → nd π = some c ∨ w.heap.size ≤ c) ∧ w.heap.size ≤ e1 ∧ w.heap.size ≤ q1 ∧ ∃ L, (∀ x ∈ L, ((∃ ρ, nd ρ = some x) ∨ x = U) ∨ x = g p) ∧ But L w w' := by
  subst hn
  have hch := check_w h.head ad cp ks rfl ⟨hk.four, hk.long⟩ hs hk.bytes
  rw [if_neg (by have := hk.fits; omega)] at hch
  have d4 : w.cell? ⟨P, 4, none⟩ = some (.pointer (some ⟨root, 0, none⟩)) := cl_of h.head 4
  have HCH := Lib.hid hch
  have HD4 := Lib.hid d4
  have HNN : Hid (N ≤ 1000000000) := Lib.hid (by have := h.num; omega)
  have HH := Lib.hid h
  have HK := Lib.hid hk
  have HS := Lib.hid hs
  have HX := Lib.hid hx
  have HSV := Lib.hid hsv
  have HVL := Lib.hid hvl
  have HVB := Lib.hid hvb
  have hvn := sees_num hsv
  subst hvn
  have hv : ((vs.length : Int) == (V : Int)) = true := by rw [beq_iff_eq, hvl]
  clear hsv hvl hvb
  have HAD : Hid (∀ π c, nd π = some c → c ≠ ad.block) := Lib.hid had
  have HQN := Lib.hid hq
  clear had hq
  have HAV := Lib.hid hav
  clear hav
  clear hch h hk hs d4 hx
  go_enter Try.func12, Try.ntmps12
  go_wp2_with fail
  refine HCH.out.mono ?_
  rintro e w1 ⟨rfl, hb1⟩
  have HB1 := Lib.hid hb1
  clear hb1
  go_upto_region 4 with fail
  have HS0 : Hid (∀ wx, But [] w1 wx → wx.cell? ⟨P, 4, none⟩ = some (.pointer (some ⟨root, 0, none⟩))) := Lib.hid fun wx hx => cell_but (HB1.out.trans hx (by simp)) HD4.out (by simp)
  have d4 := HS0.out w1 (But.refl _ _)
  have HREACH : Hid (∀ wx, But [] w1 wx → ∀ P0, wx.heap[P0]? = some (.cells #[.slice (some ad) ks.length cp] 26) → Calls Try.prog 35 #[.pointer (some ⟨root, 0, none⟩), .func (.func 54) #[] #[.pointer (some ⟨P0, 0, none⟩)], .bool false] wx fun e w' => e = .returned (pv (nd (kbits ks))) ∧ But [] wx w') := Lib.hid fun wx hb P0 hP0 => by
    have hbw := HB1.out.trans hb (by simp)
    exact callsIn_wide.1 (reach_no P0 ad cp ks wx nd xs root ((HH.out.new hbw).tree) HH.out.rt hP0 (HS.out.but hbw (by simp)) HK.out)
  go_region_held3 (fun wx => wx.cell? ⟨P, 4, none⟩ = some (.pointer (some ⟨root, 0, none⟩))) (exact HS0.out _ (by repeat (first | assumption | exact But.refl _ _ | refine But.drew ?_ | refine But.alloc ?_ _))) (first
    | (go_at_call 36; (with_reducible refine (bits_c _ _ _ _).mono ?_); rintro e w7 ⟨rfl, rfl⟩)
    | (go_at_call 35; (with_reducible refine (HREACH.out _ (by repeat (first | exact But.refl _ _ | refine But.drew ?_ | refine But.alloc ?_ _)) _ (by first | exact al_drew _ _ | exact al_at _ _)).mono ?_); rintro e w8 ⟨rfl, h8⟩; have h81 : But [] w1 w8 := (by repeat (first | exact But.refl _ _ | refine But.drew ?_ | refine But.alloc ?_ _) : But [] w1 _).trans h8 (by simp); have hk8 := HS0.out w8 h81; have H8 := Lib.hid h81; clear h8 h81))
  have HB8 : Hid (But [] w w8) := Lib.hid (HB1.out.trans H8.out (by simp))
  clear HCH HREACH HS0 HD4
  have h9 := HH.out.new HB8.out
  have n2 : w8.cell? ⟨b, 2, none⟩ = some (pv (xs (kbits ks))) := cl_of (h9.tree.cell _ b HQN.out) 2
  rw [HX.out] at n2
  rw [HQN.out]
  unfold pv at n2 ⊢
  simp only [Option.map_none, Option.map_some] at n2 ⊢
  have HU := Lib.hid h9.used
  have p2 : w8.cell? ⟨P, 2, none⟩ = some (.int .i64 V) := cl_of h9.head 2
  have p5 : w8.cell? ⟨P, 5, none⟩ = some (.slice (some ⟨U, 0, none⟩) N N) := cl_of h9.head 5
  have H9 := Lib.hid h9
  clear h9 d4 hk8
  go_wp2_with fail
  refine (index_c U N f w8 HU.out HNN.out).mono ?_
  rintro e w9 ⟨rfl, rfl⟩
  rw [hfr]
  unfold freeV
  have HFR : Hid (freeI f N = some p) := Lib.hid hfr
  go_wp2_with fail
  have d4 : w8.cell? ⟨P, 4, none⟩ = some (.pointer (some ⟨root, 0, none⟩)) := cl_of H9.out.head 4
  have HREACH : Hid (∀ wx, But [] w8 wx → ∀ P0, wx.heap[P0]? = some (.cells #[.slice (some ad) ks.length cp] 26) → w8.heap.size ≤ P0 → Calls Try.prog 35 #[.pointer (some ⟨root, 0, none⟩), .func (.func 54) #[] #[.pointer (some ⟨P0, 0, none⟩)], .bool true] wx fun e w' => ∃ nd' b', e = .returned (.pointer (some ⟨b', 0, none⟩)) ∧ nd' (kbits ks) = some b' ∧ (∀ π c, nd' π = some c → nd π = some c ∨ w8.heap.size ≤ c) ∧ (∃ L, (∀ x ∈ L, ∃ ρ, nd ρ = some x) ∧ But L w8 w') ∧ TrieS w' P root U Rm ks.length V N nd' xs pl kb f g rows) := Lib.hid fun wx hb P0 hP0 hlo => by
    have hx := H9.out.new hb
    have hsz := hb.size
    refine (callsIn_wide.1 (reach_yes P0 ad cp ks wx nd xs root hx.tree hx.rt hP0 (HS.out.but (HB8.out.trans hb (by simp)) (by simp)) HK.out (fun π c hc => ⟨fun e => by
      have := H9.out.tree.lt hc
      omega, ?_⟩))).mono ?_
    · exact HAD.out π c hc
    · rintro e w' ⟨nd', rfl, hG⟩
      obtain ⟨b', hb'⟩ := hG.here
      obtain ⟨L, hL, hbL⟩ := hG.but
      exact ⟨nd', b', by rw [hb']; rfl, hb', fun π c hc => (hG.new π c hc).imp id (fun h => by omega), ⟨L, hL, (hb.mono (by simp)).trans hbL (fun x hx => .inl hx)⟩, hx.grown hG⟩
  have HS8 : Hid (∀ wx, But [] w8 wx → wx.cell? ⟨P, 4, none⟩ = some (.pointer (some ⟨root, 0, none⟩))) := Lib.hid fun wx hx => cell_but hx (cl_of H9.out.head 4) (by simp)
  go_region_held3 (fun wx => wx.cell? ⟨P, 4, none⟩ = some (.pointer (some ⟨root, 0, none⟩))) (first | assumption | exact HS8.out _ (by repeat (first | exact But.refl _ _ | refine But.drew ?_ | refine But.alloc ?_ _))) (first
    | (go_at_call 36; (with_reducible refine (bits_c _ _ _ _).mono ?_); rintro e w10 ⟨rfl, rfl⟩)
    | (go_at_call 35; (with_reducible refine (HREACH.out _ (by repeat (first | exact But.refl _ _ | refine But.drew ?_ | refine But.alloc ?_ _)) _ (by first | exact al_drew _ _ | exact al_at _ _) (Nat.le_refl _)).mono ?_); rintro e w11 ⟨nd', b', rfl, hb', hnew, hbl, h11⟩; have hk11 : w11.cell? ⟨P, 4, none⟩ = some (.pointer (some ⟨root, 0, none⟩)) := cl_of h11.head 4; have HB' := Lib.hid hb'; have HNEW := Lib.hid hnew; have HBL := Lib.hid hbl; have H11 := Lib.hid h11; clear hb' hnew hbl h11))
  clear d4 p2 p5 hk11
  have hbw11 : ∃ L, (∀ x ∈ L, ∃ ρ, nd ρ = some x) ∧ But L w w11 := by
    obtain ⟨L, hL, hb⟩ := HBL.out
    exact ⟨L, hL, (HB8.out.mono (by simp)).trans hb (fun x hx => .inl hx)⟩
  have HBW := Lib.hid hbw11
  have HS11 : Hid (Sees w11 (.slice (some ad) ks.length cp) (u8s ks)) := Lib.hid (by
    obtain ⟨L, hL, hb⟩ := HBW.out
    exact HS.out.but hb (fun k hk hm => by cases hk; obtain ⟨ρ, hρ⟩ := hL _ hm; exact HAD.out _ _ hρ rfl))
  clear hbw11
  have hfp : p < N ∧ f p = false := freeI_some HFR.out
  obtain ⟨hpN, hfp⟩ := hfp
  obtain ⟨C, hC, hCs, hCc⟩ := id H11.out.used
  have hcell := H11.out.tree.cell _ _ HB'.out
  rw [HX.out] at hcell
  have q2 : w11.cell? ⟨b', 2, none⟩ = some (.pointer none) := cl_of hcell 2
  have q2f : w11.frozen? ⟨b', 2, none⟩ = false := fz_of hcell 2
  have u1 : w11.cell? ⟨U, p, none⟩ = some (.bool (f p)) := (cl_of hC _).trans (hCc _ hpN)
  have u1f : w11.frozen? ⟨U, p, none⟩ = false := fz_of hC _
  have hbU : b' ≠ U := (H11.out.notNode ⟨_, HB'.out⟩).2.1
  have p5 : w11.cell? ⟨P, 5, none⟩ = some (.slice (some ⟨U, 0, none⟩) N N) := cl_of H11.out.head 5
  have hlt1 : ((p : Nat) : Int) < (N : Int) := by omega
  have hPL : Hid (∀ wx, But [] w11 wx → Calls Try.prog 38 #[.slice (some ad) ks.length cp] wx fun e w' => e = .returned (.slice (some ⟨wx.heap.size, 0, none⟩) ks.length ks.length) ∧ w'.heap[wx.heap.size]? = some (.cells (u8s (plainK ks)).toArray 5) ∧ But [] wx w' ∧ (w'.cell? ⟨P, 5, none⟩ = some (.slice (some ⟨U, 0, none⟩) N N) ∧ w'.cell? ⟨b', 2, none⟩ = some (.pointer none) ∧ w'.frozen? ⟨b', 2, none⟩ = false ∧ w'.cell? ⟨U, p, none⟩ = some (.bool (f p)) ∧ w'.frozen? ⟨U, p, none⟩ = false)) := Lib.hid fun wx hb => (callsIn_wide.1 (plain_w ad cp ks wx (HS11.out.but hb (by simp)) HK.out)).mono fun e w' ⟨h1, h2, h3⟩ => ⟨h1, h2, h3, cell_but (hb.trans h3 (by simp)) p5 (by simp), cell_but (hb.trans h3 (by simp)) q2 (by simp), fz_of ((hb.trans h3 (by simp)).heap hcell (by simp)) 2, cell_but (hb.trans h3 (by simp)) u1 (by simp), fz_of ((hb.trans h3 (by simp)).heap hC (by simp)) _⟩
  have hUb : U ≠ b' := hbU.symm
  have hbP : b' ≠ P := (H11.out.notNode ⟨_, HB'.out⟩).1
  have hPb : P ≠ b' := hbP.symm
  have hUP : U ≠ P := ne_type hC H11.out.head (by decide)
  have hPU : P ≠ U := hUP.symm
  have HC := Lib.hid (show ∃ C, w11.heap[U]? = some (.cells C 4 (0, 0)) ∧ C.size = N ∧ ∀ i, i < N → C[i]? = some (.bool (f i)) from ⟨C, hC, hCs, hCc⟩)
  have HCELL := Lib.hid hcell
  have HPN := Lib.hid hpN
  have HFP := Lib.hid hfp
  have HP5 : Hid (∀ wx, But [b', U] w11 wx → wx.cell? ⟨P, 5, none⟩ = some (.slice (some ⟨U, 0, none⟩) N N)) := Lib.hid fun wx hx => cell_but hx p5 (by simp; exact ⟨hPb, hPU⟩)
  clear hC hCs hCc hcell hpN hfp
  go_wp2_with fail
  go_region_held3 (fun wx => wx.cell? ⟨P, 5, none⟩ = some (.slice (some ⟨U, 0, none⟩) N N)) (first | assumption | exact HP5.out _ (by repeat (first | exact But.refl _ _ | (with_reducible exact H12B.out.mono (by simp)) | refine But.drew ?_ | refine But.alloc ?_ _ | refine But.setCell ?_ (.inl (by simp)) _)) | go_keep) (first
    | (go_at_call 38; (with_reducible refine (hPL.out _ (by repeat (first | exact But.refl _ _ | refine But.drew ?_ | refine But.alloc ?_ _))).mono ?_); rintro e w12 ⟨rfl, hrow, hb12, hk1, hk2, hk3, hk4, hk5⟩; have HROW12 := Lib.hid hrow; have H12B : Hid (But [] w11 w12) := Lib.hid (((But.refl _ _).drew).trans hb12 (by simp)); have hk2a : ∀ o, (w12.alloc o).cell? ⟨b', 2, none⟩ = some (.pointer none) := (fun o => cell_but ((But.refl [] _).alloc o) hk2 (by simp)); have hk3a : ∀ o, (w12.alloc o).frozen? ⟨b', 2, none⟩ = false := (fun o => fz_of (((But.refl _ _).drew.trans (hb12.alloc o) (by simp) : But [] w11 _).heap HCELL.out (by simp)) 2); have hk4a : ∀ o, (w12.alloc o).cell? ⟨U, p, none⟩ = some (.bool (f p)) := (fun o => cell_but ((But.refl [] _).alloc o) hk4 (by simp)); have hk5a : ∀ o, (w12.alloc o).frozen? ⟨U, p, none⟩ = false := (fun o => by obtain ⟨C, hC, _⟩ := HC.out; exact fz_of (((But.refl _ _).drew.trans (hb12.alloc o) (by simp) : But [] w11 _).heap hC (by simp)) _); clear hrow hb12))
  generalize hw13 : ((w12.alloc (.cells #[.slice (some ⟨w11.heap.size, 0, none⟩) ks.length ks.length, .int .i64 (p : Nat)] 70)).setCell ⟨b', 2, none⟩ (.pointer (some ⟨w12.heap.size, 0, none⟩))).setCell ⟨U, p, none⟩ (.bool true) = w13
  have HW13 := Lib.hid hw13.symm
  have hz12 := H12B.out.size
  have hbl : b' < w11.heap.size := H11.out.tree.lt HB'.out
  have hUl : U < w11.heap.size := lt_of HC.out.choose_spec.1
  have hb13 : But [b', U] w11 w13 := by rw [HW13.out]; exact (((H12B.out.mono (by simp)).alloc _).setCell (.inl (by simp)) _).setCell (.inl (by simp)) _
  have k1 : w13.heap[w11.heap.size]? = some (.cells (u8s (plainK ks)).toArray 5) := by
    rw [HW13.out, heap_setN (by omega), heap_setN (by omega)]
    exact al_keep HROW12.out _
  have k2 : w13.heap[w12.heap.size]? = some (.cells #[.slice (some ⟨w11.heap.size, 0, none⟩) ks.length ks.length, .int .i64 (p : Nat)] 70) := by
    rw [HW13.out, heap_setN (by omega), heap_setN (by omega)]
    exact al_at _ _
  have k3 : w13.heap[b']? = some (.cells (nodeCells (nd' (kbits ks ++ [0])) (nd' (kbits ks ++ [1])) (some w12.heap.size)) 67) := by
    have hc : (w12.alloc (.cells #[.slice (some ⟨w11.heap.size, 0, none⟩) ks.length ks.length, .int .i64 (p : Nat)] 70)).heap[b']? = _ := al_keep (H12B.out.heap HCELL.out (by simp)) _
    rw [HW13.out, heap_setN hUb, heap_setC hc]
    rfl
  have k4 : UsedW w13 U N (upd f p true) := by
    obtain ⟨C, hC, hCs, hCc⟩ := HC.out
    have hc : ((w12.alloc (.cells #[.slice (some ⟨w11.heap.size, 0, none⟩) ks.length ks.length, .int .i64 (p : Nat)] 70)).setCell ⟨b', 2, none⟩ (.pointer (some ⟨w12.heap.size, 0, none⟩))).heap[U]? = _ := (heap_setN hbU).trans (al_keep (H12B.out.heap hC (by simp)) _)
    refine ⟨C.set! p (.bool true), ?_, by simp [hCs], fun i hi => ?_⟩
    · rw [HW13.out, heap_setC hc]
    · by_cases ei : i = p
      · subst ei
        rw [upd_at]
        simp [hCs, HPN.out]
      · rw [upd_ne _ _ ei, ← hCc i hi]
        simp [Array.getElem?_setIfInBounds_ne (Ne.symm ei)]
  have h13 := H11.out.put HB'.out HX.out HPN.out HFP.out HK.out rfl rfl (Nat.le_refl _) hz12 k1 k2 k3 k4 hb13
  have hz8 := HB8.out.size
  obtain ⟨e0, he0⟩ : ∃ e0, e0 = w12.heap.size := ⟨_, rfl⟩
  obtain ⟨q0, hq0⟩ : ∃ q0, q0 = w11.heap.size := ⟨_, rfl⟩
  have hbT : ∃ L, (∀ x ∈ L, (∃ ρ, nd ρ = some x) ∨ x = U) ∧ But L w w13 := by
    obtain ⟨L, hL, hb⟩ := HBW.out
    rcases HNEW.out _ _ HB'.out with ho | ho
    · refine ⟨L ++ [b', U], fun x hx => ?_, hb.join hb13⟩
      rcases List.mem_append.1 hx with hx | hx
      · exact .inl (hL x hx)
      · simp only [List.mem_cons, List.not_mem_nil, or_false] at hx
        rcases hx with rfl | rfl
        · exact .inl ⟨_, ho⟩
        · exact .inr rfl
    · refine ⟨L ++ [U], fun x hx => ?_, (hb.mono (fun x hx => List.mem_append_left _ hx)).trans hb13 (fun x hx => ?_)⟩
      · rcases List.mem_append.1 hx with hx | hx
        · exact .inl (hL x hx)
        · simp only [List.mem_singleton] at hx
          exact .inr hx
      · simp only [List.mem_cons, List.not_mem_nil, or_false] at hx
        rcases hx with rfl | rfl
        · exact .inr (by omega)
        · exact .inl (by simp)
  have HBT := Lib.hid hbT
  have n2 : w13.cell? ⟨b', 2, none⟩ = some (.pointer (some ⟨e0, 0, none⟩)) := by rw [he0]; exact cl_of k3 2
  rw [← he0, ← hq0] at h13
  rw [← he0]
  have HE0 : Hid (w.heap.size ≤ e0 ∧ w.heap.size ≤ q0) := Lib.hid (by
    obtain ⟨L, hL, hb⟩ := HBW.out
    have := hb.size
    omega)
  obtain ⟨pl', hpl'⟩ : ∃ pl', pl' = upd pl e0 p := ⟨_, rfl⟩
  obtain ⟨xs', hxs'⟩ : ∃ xs', xs' = plus xs (kbits ks) e0 := ⟨_, rfl⟩
  have hple : pl' e0 = p := by rw [hpl', upd_at]
  have hxe : xs' (kbits ks) = some e0 := by rw [hxs', plus_at]
  rw [← hpl', ← hxs'] at h13
  have HPL' := Lib.hid hpl'
  have HXS' := Lib.hid hxs'
  have H13 := Lib.hid h13
  have HXE := Lib.hid hxe
  have HPLE := Lib.hid hple
  obtain ⟨D, hD, hDs, hDc⟩ := id H13.out.room
  have hpN := HPN.out
  obtain ⟨r0, hr0⟩ : ∃ r0, rows[p]? = some r0 := ⟨_, List.getElem?_eq_getElem (by rw [H13.out.rows.1]; exact hpN)⟩
  obtain ⟨hrow, hrl, hrb⟩ := H13.out.rows.2 _ _ hr0
  have p6 : w13.cell? ⟨P, 6, none⟩ = some (.slice (some ⟨Rm, 0, none⟩) N N) := cl_of H13.out.head 6
  have e1 : w13.cell? ⟨e0, 1, none⟩ = some (.int .i64 (p : Nat)) := by rw [← HPLE.out]; exact cl_of (H13.out.ent _ _ HXE.out) 1
  have r1 : w13.cell? ⟨Rm, p, none⟩ = some (.slice (some ⟨g p, 0, none⟩) V V) := (cl_of hD _).trans (hDc _ hpN)
  have hlt0 : (0 : Int) ≤ ((p : Nat) : Int) := by omega
  have HROW : Hid (w13.drew.heap[g p]? = some (.cells (u8s r0).toArray 5 (0, 0))) := Lib.hid hrow
  have HSVT : Hid (Sees w13.drew (.slice va vs.length vc) (u8s vs)) := Lib.hid (by
    obtain ⟨L, hL, hb⟩ := HBT.out
    exact HSV.out.but hb.drew (fun k hk hm => HAV.out k hk (hL k hm)))
  have HRL : Hid (r0.length = V) := Lib.hid hrl
  clear hD hDs hDc hr0 hrow hrl hrb hpN h13 hpl' hxs' hxe hple k1 k2 k3 k4 hb13 hbT hw13 hz12 hbl hUl hz8 he0 hq0 hk1 hk2 hk3 hk4 hk5 hk2a hk3a hk4a hk5a q2 q2f u1 u1f p5 hbU hUb hbP hPb hUP hPU
  go_upto_region 19 with fail
  refine wp_region_tail9 14 (by kernel_rfl) (by kernel_rfl) ?_
  simp only [List.take_succ_cons, List.take_zero, List.drop_succ_cons, List.drop_zero]
  repeat still_step
  refine wpStill_nil ?_
  refine wpList_copy_but rfl (.tmp 107) (.tmp 108) 26 26 rfl 5 Try.underlying26 (by kernel_rfl) (some ⟨g p, 0, none⟩) va V V vs.length vc rfl rfl (g p) 0 (u8s r0) 5 HROW.out (u8s vs) (by rw [u8s_len, HVL.out]; exact (Nat.min_self V).symm) (fun h => ⟨rfl, sees_src HSVT.out h⟩) (by rw [u8s_len, u8s_len, HRL.out, HVL.out]; omega) (u8s_one _) ?_
  intro w5 hg5 hb5
  rw [splice_full _ _ (by rw [u8s_len, u8s_len, HRL.out, HVL.out])] at hg5
  have HB5 : Hid (But [g p] w13 w5) := Lib.hid (((But.refl _ _).drew).trans hb5 (fun x hx => .inl hx))
  have HG5 := Lib.hid hg5
  clear hg5 hb5
  go_wp2_with fail
  go_ret
  have h5 := H13.out.setRow HPN.out HVL.out HVB.out HG5.out HB5.out
  rw [HPL'.out, HXS'.out] at h5
  refine ⟨rfl, nd', e0, q0, h5, fun π c hc => (HNEW.out π c hc).imp id (fun h => Nat.le_trans HB8.out.size h), HE0.out.1, HE0.out.2, ?_⟩
  obtain ⟨L, hL, hb⟩ := HBT.out
  refine ⟨L ++ [g p], fun x hx => ?_, hb.join HB5.out⟩
  rcases List.mem_append.1 hx with hx | hx
  · exact .inl (hL x hx)
  · exact .inr (by simpa using hx)
end Go.Proofs.Ytpoinhfkgnkedaa.M
namespace Go.Proofs.Ytpoinhfkgnkedaa.M
open Go.RowKit Go.Shelf
set_option linter.unusedVariables false
set_option linter.unusedSectionVars false
set_option linter.unusedSimpArgs false
def KeyBad (K : Nat) (ks : List Int) : Prop := ks.length ≠ K ∨ 8 * ((K : Int) - 4) < leV (ks.take 4)
instance (K : Nat) (ks : List Int) : Decidable (KeyBad K ks) := by unfold KeyBad; infer_instance
theorem check_bad {w : World} {P root U Rm : Nat} {k : Int} {K V N : Nat} (h : HeadW w P root U Rm k K V N) (hK : 5 ≤ K ∧ K ≤ 36) (a : Option Addr) (c : Nat) (ks : List Int) (hs : Sees w (.slice a ks.length c) (u8s ks)) (hb : ByteL ks) (hbad : KeyBad K ks) :
    Calls Try.prog 34 #[.pointer (some ⟨P, 0, none⟩), .slice a ks.length c] w fun e w' => e = .returned (.int .i64 2) ∧ But [] w w' := by
  by_cases hn : ks.length = K
  · rcases hbad with hbad | hbad
    · exact absurd hn hbad
    · rcases id hs with ⟨h1, h2⟩ | ⟨ad, c', h1, _, _⟩
      · have := congrArg List.length h2
        rw [u8s_len] at this
        simp only [List.length_nil] at this
        omega
      · simp only [Value.slice.injEq] at h1
        obtain ⟨rfl, _, rfl⟩ := h1
        have hc := check_w h ad c ks hn (by omega) hs hb
        rwa [if_pos (by omega)] at hc
  · refine (check_len h a ks.length c (by exact_mod_cast hn)).mono ?_
    rintro e w' ⟨rfl, rfl⟩
    exact ⟨rfl, But.refl _ _⟩
section
variable {w : World} {P root U Rm : Nat} {k : Int} {K V N : Nat}
set_option maxRecDepth 100000 in
theorem lookup_bad (h : HeadW w P root U Rm k K V N) (hK : 5 ≤ K ∧ K ≤ 36) (a : Option Addr) (c : Nat) (ks : List Int) (hs : Sees w (.slice a ks.length c) (u8s ks)) (hb : ByteL ks) (hbad : KeyBad K ks) :
    Calls Try.prog 14 #[.pointer (some ⟨P, 0, none⟩), .slice a ks.length c] w fun e w' => e = .returned (.tuple #[.int .i64 0, .int .i64 2]) ∧ But [] w w' := by
  have HC := Lib.hid (check_bad h hK a c ks hs hb hbad)
  clear h hK hs hb hbad
  go_enter Try.func14, Try.ntmps14
  go_wp2_with fail
  refine HC.out.mono ?_
  rintro e w1 ⟨rfl, hb1⟩
  go_wp2_with fail
  go_ret2
  exact ⟨rfl, hb1⟩
set_option maxRecDepth 100000 in
theorem delete_bad (h : HeadW w P root U Rm k K V N) (hK : 5 ≤ K ∧ K ≤ 36) (a : Option Addr) (c : Nat) (ks : List Int) (hs : Sees w (.slice a ks.length c) (u8s ks)) (hb : ByteL ks) (hbad : KeyBad K ks) :
    Calls Try.prog 11 #[.pointer (some ⟨P, 0, none⟩), .slice a ks.length c] w fun e w' => e = .returned (.int .i64 2) ∧ But [] w w' := by
  have HC := Lib.hid (check_bad h hK a c ks hs hb hbad)
  clear h hK hs hb hbad
  go_enter Try.func11, Try.ntmps11
  go_wp2_with fail
  refine HC.out.mono ?_
  rintro e w1 ⟨rfl, hb1⟩
  go_wp2_with fail
  go_ret
  exact ⟨rfl, hb1⟩
set_option maxRecDepth 100000 in
theorem update_bad (h : HeadW w P root U Rm k K V N) (hK : 5 ≤ K ∧ K ≤ 36) (a : Option Addr) (c : Nat) (ks : List Int) (hs : Sees w (.slice a ks.length c) (u8s ks)) (hb : ByteL ks) (hbad : KeyBad K ks) (v : Value) (fl : Int) :
    Calls Try.prog 12 #[.pointer (some ⟨P, 0, none⟩), .slice a ks.length c, v, .int .u64 fl] w fun e w' => e = .returned (.int .i64 2) ∧ But [] w w' := by
  have HC := Lib.hid (check_bad h hK a c ks hs hb hbad)
  clear h hK hs hb hbad
  go_enter Try.func12, Try.ntmps12
  go_wp2_with fail
  refine HC.out.mono ?_
  rintro e w1 ⟨rfl, hb1⟩
  go_wp2_with fail
  go_ret
  exact ⟨rfl, hb1⟩
end
end Go.Proofs.Ytpoinhfkgnkedaa.M
namespace Go.Proofs.Ytpoinhfkgnkedaa.M
open Go.RowKit Go.Shelf
set_option linter.unusedVariables false
set_option linter.unusedSectionVars false
set_option linter.unusedSimpArgs false
abbrev EMap := Path → Option Nat
/-- The place of the longest beginning that has one. -/
def lookE (E : EMap) (π : Path) : Option Nat := ((upto π).filterMap E).getLast?
noncomputable def usedE (E : EMap) (p : Nat) : Bool := @decide (∃ π, E π = some p) (Classical.propDecidable _)
theorem usedE_iff (E : EMap) (p : Nat) : usedE E p = true ↔ ∃ π, E π = some p := by
  unfold usedE
  exact @decide_eq_true_iff _ (Classical.propDecidable _)
def placeO : Option Nat → Int | some p => (p : Nat) | none => 0
def errO : Option Nat → Int | some _ => 0 | none => 6
def putE (E : EMap) (π : Path) (v : Option Nat) : EMap := fun ρ => if ρ = π then v else E ρ
theorem putE_at (E : EMap) (π : Path) (v : Option Nat) : putE E π v π = v := by simp [putE]
theorem putE_ne (E : EMap) {π ρ : Path} (v : Option Nat) (h : ρ ≠ π) : putE E π v ρ = E ρ := by simp [putE, h]
def lookT (K : Nat) (E : EMap) (ks : List Int) : Int × Int := if KeyBad K ks then (0, 2) else (placeO (lookE E (kbits ks)), errO (lookE E (kbits ks)))
def delT (K : Nat) (E : EMap) (ks : List Int) : Int × EMap := if KeyBad K ks then (2, E) else if E (kbits ks) = none then (6, E) else (0, putE E (kbits ks) none)
noncomputable def updT (K V N : Nat) (E : EMap) (rows : List (List Int)) (ks vs : List Int) (fl : Int) : Int × EMap × List (List Int) :=
  if KeyBad K ks ∨ vs.length ≠ V ∨ 2 < fl then (2, E, rows)
  else match E (kbits ks) with
    | some p => if fl = 1 then (7, E, rows) else (0, E, rows.set p vs)
    | none => if fl = 2 then (6, E, rows) else match freeI (usedE E) N with
      | none => (8, E, rows)
      | some p => (0, putE E (kbits ks) (some p), rows.set p vs)
structure TO (w W : World) (S : Nat → Prop) (P K V N : Nat) (E : EMap) (rows : List (List Int)) : Prop where
  ex : ∃ root U Rm nd xs pl kb f g, TrieS W P root U Rm K V N nd xs pl kb f g rows ∧ (∀ π, E π = (xs π).map pl) ∧ ∀ b, Mine P U Rm N nd xs kb g b → S b
  low : ∀ b, S b → w.heap.size ≤ b ∧ b < W.heap.size
  but : But [] w W
/-- What an operation turns. -/
def TurnsO (S S' : Nat → Prop) (W w' : World) : Prop := (∀ b, b < W.heap.size → S' b → S b) ∧ ∃ L, (∀ x ∈ L, S x ∨ W.heap.size ≤ x) ∧ But L W w'
theorem TurnsO.refl {S : Nat → Prop} {W w' : World} (h : But [] W w') : TurnsO S S W w' := ⟨fun _ _ h => h, [], by simp, h⟩
section
variable {w W : World} {S : Nat → Prop} {P K V N : Nat} {E : EMap} {rows : List (List Int)}
theorem TO.keep {W' : World} (h : TO w W S P K V N E rows) {L : List Nat} (hb : But L W W') (hL : ∀ x ∈ L, ¬ S x ∧ w.heap.size ≤ x) : TO w W' S P K V N E rows := by
  obtain ⟨root, U, Rm, nd, xs, pl, kb, f, g, h1, h2, h3⟩ := h.ex
  exact ⟨⟨root, U, Rm, nd, xs, pl, kb, f, g, h1.but hb (fun x hx hm => (hL x hx).1 (h3 x hm)), h2, h3⟩, fun b hs => ⟨(h.low b hs).1, Nat.lt_of_lt_of_le (h.low b hs).2 hb.size⟩, h.but.trans hb (fun x hx => .inr (hL x hx).2)⟩
theorem TO.new {W' : World} (h : TO w W S P K V N E rows) (hb : But [] W W') : TO w W' S P K V N E rows := h.keep hb (by simp)
theorem TO.num (h : TO w W S P K V N E rows) : (5 ≤ K ∧ K ≤ 36) ∧ (1 ≤ V ∧ V ≤ 1024) ∧ (1 ≤ N ∧ N ≤ 1024) := by
  obtain ⟨root, U, Rm, nd, xs, pl, kb, f, g, h1, h2, h3⟩ := h.ex
  exact h1.num
theorem TO.rowsLen (h : TO w W S P K V N E rows) : rows.length = N ∧ ∀ (i : Nat) (r : List Int), rows[i]? = some r → r.length = V ∧ ByteL r := by
  obtain ⟨root, U, Rm, nd, xs, pl, kb, f, g, h1, h2, h3⟩ := h.ex
  exact ⟨h1.rows.1, fun i r hi => (h1.rows.2 i r hi).2⟩
theorem TO.plt (h : TO w W S P K V N E rows) {π : Path} {p : Nat} (hp : E π = some p) : p < N := by
  obtain ⟨root, U, Rm, nd, xs, pl, kb, f, g, h1, h2, h3⟩ := h.ex
  rw [h2] at hp
  obtain ⟨e, he, rfl⟩ := Option.map_eq_some_iff.1 hp
  exact h1.plt _ _ he
theorem TO.pinj (h : TO w W S P K V N E rows) {π ρ : Path} {p : Nat} (hp : E π = some p) (hr : E ρ = some p) : π = ρ := by
  obtain ⟨root, U, Rm, nd, xs, pl, kb, f, g, h1, h2, h3⟩ := h.ex
  rw [h2] at hp hr
  obtain ⟨e, he, rfl⟩ := Option.map_eq_some_iff.1 hp
  obtain ⟨e', he', hpp⟩ := Option.map_eq_some_iff.1 hr
  exact h1.pinj _ _ _ _ he he' hpp.symm
/-- The key of a path that has a place. -/
theorem TO.key (h : TO w W S P K V N E rows) {π : Path} {p : Nat} (hp : E π = some p) : ∃ ks, KeyOk ks ∧ ks.length = K ∧ kbits ks = π := by
  obtain ⟨root, U, Rm, nd, xs, pl, kb, f, g, h1, h2, h3⟩ := h.ex
  rw [h2] at hp
  obtain ⟨e, he, rfl⟩ := Option.map_eq_some_iff.1 hp
  obtain ⟨ks, a, b, c, d⟩ := h1.key _ _ he
  exact ⟨ks, a, b, c⟩
theorem keyOk_of {K : Nat} {ks : List Int} (hK : 5 ≤ K ∧ K ≤ 36) (hb : ByteL ks) (hn : ¬ KeyBad K ks) : KeyOk ks ∧ ks.length = K := by
  unfold KeyBad at hn
  rw [not_or] at hn
  obtain ⟨h1, h2⟩ := hn
  have h1 : ks.length = K := Classical.not_not.1 h1
  exact ⟨⟨hb, by omega, by omega, by omega⟩, h1⟩
theorem sees_some {w : World} {a : Option Addr} {c : Nat} {ks : List Int} (hs : Sees w (.slice a ks.length c) (u8s ks)) (h0 : 0 < ks.length) : ∃ ad, a = some ad := by
  rcases id hs with ⟨h1, h2⟩ | ⟨ad, c', h1, _, _⟩
  · have := congrArg List.length h2
    rw [u8s_len] at this
    simp only [List.length_nil] at this
    omega
  · simp only [Value.slice.injEq] at h1
    exact ⟨ad, h1.1⟩
theorem upto_prefix : ∀ (τ ρ : Path), ∃ R, upto (ρ ++ τ) = upto ρ ++ R ∧ ∀ σ ∈ R, ∃ x, τ.head? = some x ∧ ρ ++ [x] <+: σ
  | [], ρ => ⟨[], by simp, by simp⟩
  | x :: τ, ρ => by
    obtain ⟨R, h1, h2⟩ := upto_prefix τ (ρ ++ [x])
    rw [List.append_assoc, List.singleton_append] at h1
    refine ⟨[ρ ++ [x]] ++ R, by rw [h1, upto_snoc, List.append_assoc], fun σ hσ => ⟨x, rfl, ?_⟩⟩
    rcases List.mem_append.1 hσ with hσ | hσ
    · rw [List.mem_singleton] at hσ
      subst hσ
      exact List.prefix_refl _
    · obtain ⟨y, _, h3⟩ := h2 σ hσ
      exact (List.prefix_append _ _).trans h3
theorem look_down {w : World} {nd xs : Path → Option Nat} {pl : Nat → Nat} {E : EMap} (hT : Tree w nd xs) (hE : ∀ π, E π = (xs π).map pl) {π : Path} {ρs : List Path} (h : DownS nd π ρs) : lookE E π = (lastE xs ρs).map pl := by
  have hm : ∀ l : List Path, l.filterMap E = (l.filterMap xs).map pl := fun l => by
    rw [List.map_filterMap]
    congr 1
    funext π
    exact hE π
  unfold lookE lastE
  rw [hm, List.getLast?_map]
  rcases h with ⟨rfl, _⟩ | ⟨ρ, x, rfl, ⟨τ, hτ⟩, hn, _⟩
  · rfl
  · obtain ⟨R, h1, h2⟩ := upto_prefix (x :: τ) ρ
    have e : ρ ++ x :: τ = π := by rw [← hτ]; simp
    rw [e] at h1
    have hR : R.filterMap xs = [] := by
      rw [List.filterMap_eq_nil_iff]
      intro σ hσ
      obtain ⟨y, hy, hp⟩ := h2 σ hσ
      simp only [List.head?_cons, Option.some.injEq] at hy
      subst hy
      have := hT.none_down hn hp
      cases hx : xs σ with
      | none => rfl
      | some e => obtain ⟨b, hb⟩ := hT.ent _ _ hx; rw [this] at hb; cases hb
    rw [h1, List.filterMap_append, hR, List.append_nil]
theorem find_congr {α : Type} {l : List α} {p q : α → Bool} (h : ∀ x ∈ l, p x = q x) : l.find? p = l.find? q := by
  induction l with
  | nil => rfl
  | cons x l ih => rw [List.find?_cons, List.find?_cons, h x List.mem_cons_self, ih (fun y hy => h y (List.mem_cons_of_mem _ hy))]
theorem free_eq {w : World} {P root U Rm K V N : Nat} {nd xs : Path → Option Nat} {pl kb : Nat → Nat} {f : Nat → Bool} {g : Nat → Nat} {rows : List (List Int)} (h : TrieS w P root U Rm K V N nd xs pl kb f g rows) {E : EMap} (hE : ∀ π, E π = (xs π).map pl) : freeI (usedE E) N = freeI f N := by
  unfold freeI
  refine find_congr (fun i hi => ?_)
  rw [List.mem_range] at hi
  have h1 := h.full i hi
  have h2 := usedE_iff E i
  have h3 : (∃ π, E π = some i) ↔ ∃ π e, xs π = some e ∧ pl e = i := by
    constructor
    · rintro ⟨π, hp⟩
      rw [hE] at hp
      obtain ⟨e, he, hpe⟩ := Option.map_eq_some_iff.1 hp
      exact ⟨π, e, he, hpe⟩
    · rintro ⟨π, e, he, hpe⟩
      exact ⟨π, by rw [hE, he, ← hpe]; rfl⟩
  have : usedE E i = f i := by
    rw [Bool.eq_iff_iff, h2, h3, h1]
  rw [this]
theorem mine_lt {w : World} {P root U Rm K V N : Nat} {nd xs : Path → Option Nat} {pl kb : Nat → Nat} {f : Nat → Bool} {g : Nat → Nat} {rows : List (List Int)} (h : TrieS w P root U Rm K V N nd xs pl kb f g rows) {b : Nat} (hb : Mine P U Rm N nd xs kb g b) : b < w.heap.size := by
  rcases hb with rfl | rfl | rfl | ⟨π, hp⟩ | ⟨π, e, he, rfl | rfl⟩ | ⟨i, hi, rfl⟩
  · exact lt_of h.head
  · obtain ⟨C, hC, _⟩ := h.used; exact lt_of hC
  · obtain ⟨C, hC, _⟩ := h.room; exact lt_of hC
  · exact h.tree.lt hp
  · exact (h.elt he).1
  · exact (h.elt he).2
  · exact lt_of (h.rows.2 i _ (List.getElem?_eq_getElem (by rw [h.rows.1]; exact hi))).1
/-- A trie behind an operation: its blocks are of the old ones, or new. -/
theorem TO.turn (h : TO w W S P K V N E rows) {W' : World} {root U Rm : Nat} {nd xs : Path → Option Nat} {pl kb : Nat → Nat} {f : Nat → Bool} {g : Nat → Nat} {E' : EMap} {rows' : List (List Int)} (h1 : TrieS W' P root U Rm K V N nd xs pl kb f g rows') (h2 : ∀ π, E' π = (xs π).map pl)
    (h3 : ∀ b, Mine P U Rm N nd xs kb g b → S b ∨ W.heap.size ≤ b) (h4 : ∃ L, (∀ x ∈ L, S x ∨ W.heap.size ≤ x) ∧ But L W W') : ∃ S', TO w W' S' P K V N E' rows' ∧ TurnsO S S' W W' := by
  obtain ⟨L, hL, hb⟩ := h4
  have hs := h.but.size
  refine ⟨fun b => (S b ∨ W.heap.size ≤ b) ∧ b < W'.heap.size, ⟨⟨root, U, Rm, nd, xs, pl, kb, f, g, h1, h2, fun b hm => ⟨h3 b hm, mine_lt h1 hm⟩⟩, fun b hb => ⟨?_, hb.2⟩, h.but.trans hb (fun x hx => .inr ?_)⟩, fun b hb hk => ?_, L, hL, hb⟩
  · rcases hb.1 with h3 | h3
    · exact (h.low b h3).1
    · omega
  · rcases hL x hx with h3 | h3
    · exact (h.low x h3).1
    · omega
  · rcases hk.1 with h3 | h3
    · exact h3
    · omega
theorem TO.lookup (h : TO w W S P K V N E rows) (a : Option Addr) (c : Nat) {ks : List Int} (hs : Sees W (.slice a ks.length c) (u8s ks)) (hk : ByteL ks) :
    Calls Try.prog 14 #[.pointer (some ⟨P, 0, none⟩), .slice a ks.length c] W fun r w' => r = .returned (.tuple #[.int .i64 (lookT K E ks).1, .int .i64 (lookT K E ks).2]) ∧ But [] W w' := by
  obtain ⟨root, U, Rm, nd, xs, pl, kb, f, g, h1, h2, h3⟩ := h.ex
  unfold lookT
  by_cases hbad : KeyBad K ks
  · rw [if_pos hbad]
    exact lookup_bad h1.head h1.num.1 a c ks hs hk hbad
  · rw [if_neg hbad]
    obtain ⟨hok, hl⟩ := keyOk_of h1.num.1 hk hbad
    obtain ⟨ad, rfl⟩ := sees_some hs (by have := hok.four; omega)
    refine (callsIn_wide.1 (lookup_w h1.head h1.tree h1.rt h1.ents ad c ks hl hok hs)).mono ?_
    rintro r w' ⟨ρs, hd, rfl, hb⟩
    rw [look_down h1.tree h2 hd]
    refine ⟨?_, hb⟩
    cases lastE xs ρs <;> rfl
theorem TO.delete (h : TO w W S P K V N E rows) (a : Option Addr) (c : Nat) {ks : List Int} (hs : Sees W (.slice a ks.length c) (u8s ks)) (hk : ByteL ks) :
    Calls Try.prog 11 #[.pointer (some ⟨P, 0, none⟩), .slice a ks.length c] W fun r w' => r = .returned (.int .i64 (delT K E ks).1) ∧ ∃ S', TO w w' S' P K V N (delT K E ks).2 rows ∧ TurnsO S S' W w' := by
  obtain ⟨root, U, Rm, nd, xs, pl, kb, f, g, h1, h2, h3⟩ := h.ex
  unfold delT
  by_cases hbad : KeyBad K ks
  · rw [if_pos hbad]
    refine (delete_bad h1.head h1.num.1 a c ks hs hk hbad).mono ?_
    rintro r w' ⟨rfl, hb⟩
    exact ⟨rfl, S, h.new hb, .refl hb⟩
  · rw [if_neg hbad]
    obtain ⟨hok, hl⟩ := keyOk_of h1.num.1 hk hbad
    obtain ⟨ad, rfl⟩ := sees_some hs (by have := hok.four; omega)
    rw [h2]
    cases hx : xs (kbits ks) with
    | none =>
      rw [Option.map_none, if_pos rfl]
      refine (delete_none h1 ad c ks hl hok hs hx).mono ?_
      rintro r w' ⟨rfl, hb⟩
      exact ⟨rfl, S, h.new hb, .refl hb⟩
    | some e0 =>
      rw [if_neg (by simp)]
      refine (delete_hit h1 ad c ks hl hok hs hx).mono ?_
      rintro r w' ⟨rfl, h4, h5⟩
      refine ⟨rfl, h.turn h4 (fun ρ => ?_) (fun b hm => .inl ?_) ?_⟩
      · dsimp only
        by_cases e : ρ = kbits ks
        · subst e; rw [putE_at, minus_at]; rfl
        · rw [putE_ne _ _ e, minus_ne _ e, h2]
      · refine h3 b ?_
        rcases hm with hm | hm | hm | hm | ⟨π, e, he, hm⟩ | hm
        · exact .inl hm
        · exact .inr (.inl hm)
        · exact .inr (.inr (.inl hm))
        · exact .inr (.inr (.inr (.inl hm)))
        · exact .inr (.inr (.inr (.inr (.inl ⟨π, e, (minus_some he).2, hm⟩))))
        · exact .inr (.inr (.inr (.inr (.inr hm))))
      · obtain ⟨L, hL, hb⟩ := h5
        exact ⟨L, fun x hx => .inl (h3 x (by rcases hL x hx with h | h; exact .inr (.inr (.inr (.inl h))); exact .inr (.inl h))), hb⟩
theorem putE_plus {xs : Path → Option Nat} {pl : Nat → Nat} {E : EMap} (h2 : ∀ π, E π = (xs π).map pl) {π : Path} {e1 p : Nat} (hne : ∀ ρ e, xs ρ = some e → e ≠ e1) : ∀ ρ, putE E π (some p) ρ = (plus xs π e1 ρ).map (upd pl e1 p) := fun ρ => by
  by_cases e : ρ = π
  · subst e; rw [putE_at, plus_at, Option.map_some, upd_at]
  · rw [putE_ne _ _ e, plus_off _ _ e, h2]
    cases hx : xs ρ with
    | none => rfl
    | some e' => rw [Option.map_some, Option.map_some, upd_ne _ _ (hne _ _ hx)]
theorem TO.update (h : TO w W S P K V N E rows) (a : Option Addr) (c : Nat) {ks : List Int} (hs : Sees W (.slice a ks.length c) (u8s ks)) (hk : ByteL ks) (va : Option Addr) (vc : Nat) {vs : List Int} (hsv : Sees W (.slice va vs.length vc) (u8s vs)) (hv : ByteL vs) (fl : Int)
    (hka : 0 < ks.length → ∀ b, (Value.slice a ks.length c).ownBlock = some b → ¬ S b) (hva : 0 < vs.length → ∀ b, (Value.slice va vs.length vc).ownBlock = some b → ¬ S b) :
    Calls Try.prog 12 #[.pointer (some ⟨P, 0, none⟩), .slice a ks.length c, .slice va vs.length vc, .int .u64 fl] W fun r w' => r = .returned (.int .i64 (updT K V N E rows ks vs fl).1) ∧ ∃ S', TO w w' S' P K V N (updT K V N E rows ks vs fl).2.1 (updT K V N E rows ks vs fl).2.2 ∧ TurnsO S S' W w' := by
  obtain ⟨root, U, Rm, nd, xs, pl, kb, f, g, h1, h2, h3⟩ := h.ex
  unfold updT
  by_cases hbad : KeyBad K ks
  · rw [if_pos (.inl hbad)]
    refine (update_bad h1.head h1.num.1 a c ks hs hk hbad _ fl).mono ?_
    rintro r w' ⟨rfl, hb⟩
    exact ⟨rfl, S, h.new hb, .refl hb⟩
  obtain ⟨hok, hl⟩ := keyOk_of h1.num.1 hk hbad
  have hk0 : 0 < ks.length := by have := hok.four; omega
  obtain ⟨ad, rfl⟩ := sees_some hs hk0
  by_cases hvl : vs.length = V
  rotate_left
  · rw [if_pos (.inr (.inl hvl))]
    have hv' : ((vs.length : Int) == (V : Int)) = false := by rw [beq_eq_false_iff_ne]; omega
    have hc : Calls Try.prog 12 #[.pointer (some ⟨P, 0, none⟩), .slice (some ad) ks.length c, .slice va vs.length vc, .int .u64 fl] W fun e w' => e = .returned (.int .i64 2) ∧ But [] W w' := by
      cases hx : xs (kbits ks) with
      | none => exact upd_len_miss h1 ad c ks hl hok hs va vs.length vc fl hx hv'
      | some e0 => exact upd_len_hit h1 ad c ks hl hok hs va vs.length vc fl hx hv'
    refine hc.mono ?_
    rintro r w' ⟨rfl, hb⟩
    exact ⟨rfl, S, h.new hb, .refl hb⟩
  have hv' : ((vs.length : Int) == (V : Int)) = true := by rw [beq_iff_eq]; omega
  by_cases hf : 2 < fl
  · rw [if_pos (.inr (.inr hf))]
    have hf' : decide ((2 : Int) < fl) = true := decide_eq_true hf
    have hc : Calls Try.prog 12 #[.pointer (some ⟨P, 0, none⟩), .slice (some ad) ks.length c, .slice va vs.length vc, .int .u64 fl] W fun e w' => e = .returned (.int .i64 2) ∧ But [] W w' := by
      cases hx : xs (kbits ks) with
      | none => exact upd_flag_miss h1 ad c ks hl hok hs va vs.length vc fl hx hv' hf'
      | some e0 => exact upd_flag_hit h1 ad c ks hl hok hs va vs.length vc fl hx hv' hf'
    refine hc.mono ?_
    rintro r w' ⟨rfl, hb⟩
    exact ⟨rfl, S, h.new hb, .refl hb⟩
  have hf' : decide ((2 : Int) < fl) = false := decide_eq_false hf
  rw [if_neg (by rintro (h | h | h); exact hbad h; exact h hvl; exact hf h), h2]
  cases hx : xs (kbits ks) with
  | some e0 =>
    rw [Option.map_some]
    dsimp only
    by_cases h11 : fl = 1
    · subst h11
      rw [if_pos rfl]
      refine (upd_there h1 ad c ks hl hok hs va vs.length vc 1 hx hv' hf').mono ?_
      rintro r w' ⟨rfl, hb⟩
      exact ⟨rfl, S, h.new hb, .refl hb⟩
    · rw [if_neg h11]
      have h11' : (fl == 1) = false := by rw [beq_eq_false_iff_ne]; exact h11
      refine (upd_hit h1 ad c ks hl hok hs va vs.length vc fl hx vs hvl hv hsv hf' h11').mono ?_
      rintro r w' ⟨rfl, h4, h5⟩
      refine ⟨rfl, h.turn h4 h2 (fun b hm => .inl (h3 b hm)) ⟨_, fun x hx' => .inl (h3 x ?_), h5⟩⟩
      rw [List.mem_singleton] at hx'
      exact .inr (.inr (.inr (.inr (.inr ⟨_, h1.plt _ _ hx, hx'⟩))))
  | none =>
    rw [Option.map_none]
    dsimp only
    by_cases h11 : fl = 2
    · subst h11
      rw [if_pos rfl]
      refine (upd_none h1 ad c ks hl hok hs va vs.length vc 2 hx hv' hf').mono ?_
      rintro r w' ⟨rfl, hb⟩
      exact ⟨rfl, S, h.new hb, .refl hb⟩
    · rw [if_neg h11, free_eq h1 h2]
      have h11' : (fl == 2) = false := by rw [beq_eq_false_iff_ne]; exact h11
      cases hfr : freeI f N with
      | none =>
        dsimp only
        refine (upd_full h1 ad c ks hl hok hs va vs.length vc fl hx hv' hf' h11' hfr).mono ?_
        rintro r w' ⟨rfl, hb⟩
        exact ⟨rfl, S, h.new hb, .refl hb⟩
      | some p =>
        dsimp only
        have had : ∀ π b, nd π = some b → b ≠ ad.block := fun π b hb he => hka hk0 _ rfl (h3 _ (.inr (.inr (.inr (.inl ⟨π, by rw [← he]; exact hb⟩)))))
        have hav : ∀ b, Value.ownBlock (.slice va vs.length vc) = some b → ¬ ((∃ ρ, nd ρ = some b) ∨ b = U) := fun b hb hh => hva (by have := h1.num; omega) b hb (h3 _ (by
          rcases hh with hh | hh
          · exact .inr (.inr (.inr (.inl hh)))
          · exact .inr (.inl hh)))
        have hc : Calls Try.prog 12 #[.pointer (some ⟨P, 0, none⟩), .slice (some ad) ks.length c, .slice va vs.length vc, .int .u64 fl] W fun e w' => e = .returned (.int .i64 0) ∧ ∃ nd' e1 q1, TrieS w' P root U Rm K V N nd' (plus xs (kbits ks) e1) (upd pl e1 p) (upd kb e1 q1) (upd f p true) g (rows.set p vs) ∧ (∀ π c, nd' π = some c → nd π = some c ∨ W.heap.size ≤ c) ∧ W.heap.size ≤ e1 ∧ W.heap.size ≤ q1 ∧ ∃ L, (∀ x ∈ L, ((∃ ρ, nd ρ = some x) ∨ x = U) ∨ x = g p) ∧ But L W w' := by
          cases hq : nd (kbits ks) with
          | none => exact upd_new_a h1 ad c ks hl hok hs va vs.length vc fl had hav hq hx vs hvl hv hsv hf' h11' hfr
          | some b => exact upd_new_b h1 ad c ks hl hok hs va vs.length vc fl had hav hq hx vs hvl hv hsv hf' h11' hfr
        refine hc.mono ?_
        rintro r w' ⟨rfl, nd', e1, q1, h4, hnd, he1, hq1, L, hL, hb⟩
        refine ⟨rfl, h.turn h4 (putE_plus h2 (fun ρ e he => by have := (h1.elt he).1; omega)) (fun b hm => ?_) ⟨L, fun x hx' => .inl (h3 x ?_), hb⟩⟩
        · rcases hm with rfl | rfl | rfl | ⟨π, hp⟩ | ⟨π, e, he, hm⟩ | ⟨i, hi, rfl⟩
          · exact .inl (h3 _ (.inl rfl))
          · exact .inl (h3 _ (.inr (.inl rfl)))
          · exact .inl (h3 _ (.inr (.inr (.inl rfl))))
          · rcases hnd _ _ hp with hp | hp
            · exact .inl (h3 _ (.inr (.inr (.inr (.inl ⟨π, hp⟩)))))
            · exact .inr hp
          · by_cases e2 : π = kbits ks
            · subst e2
              rw [plus_at] at he
              cases he
              rw [upd_at] at hm
              rcases hm with rfl | rfl
              · exact .inr he1
              · exact .inr hq1
            · rw [plus_off _ _ e2] at he
              have hne : e ≠ e1 := by have := (h1.elt he).1; omega
              rw [upd_ne _ _ hne] at hm
              exact .inl (h3 _ (.inr (.inr (.inr (.inr (.inl ⟨π, e, he, hm⟩))))))
          · exact .inl (h3 _ (.inr (.inr (.inr (.inr (.inr ⟨i, hi, rfl⟩))))))
        · rcases hL x hx' with (h5 | h5) | h5
          · exact .inr (.inr (.inr (.inl h5)))
          · exact .inr (.inl h5)
          · exact .inr (.inr (.inr (.inr (.inr ⟨p, (freeI_some hfr).1, h5⟩))))
/-- New. -/
theorem specE_trie' {K V N : Nat} (h : specE 4 K V N = 0) : (5 ≤ K ∧ K ≤ 36) ∧ (1 ≤ V ∧ V ≤ 1024) ∧ (1 ≤ N ∧ N ≤ 1024) := by
  have := specE_trie h
  omega
theorem newTO (K V N : Nat) (w : World) (hE : specE 4 K V N = 0) :
    Calls Try.prog 9 #[.agg #[.int .u8 4, .int .i64 K, .int .i64 V, .int .i64 N]] w fun e w' => ∃ P S, e = .returned (.tuple #[.pointer (some ⟨P, 0, none⟩), .int .i64 0]) ∧ TO w w' S P K V N (fun _ => none) (List.replicate N (List.replicate V 0)) := by
  refine (newTrie K V N w hE).mono ?_
  rintro e w' ⟨P, root, U, Rm, g, rfl, ⟨w1, hw1, hN⟩, hb⟩
  have hT := hN.trie (specE_trie' hE)
  refine ⟨P, fun b => Mine P U Rm N (oneN root) (fun _ => none) (fun _ => 0) g b, rfl, ⟨root, U, Rm, _, _, _, _, _, g, hT, fun _ => rfl, fun b hb => hb⟩, fun b hm => ⟨?_, mine_lt hT hm⟩, hb⟩
  have hl := hN.low
  rcases hm with rfl | rfl | rfl | ⟨π, hp⟩ | ⟨π, e, he, _⟩ | ⟨i, hi, rfl⟩
  · omega
  · omega
  · omega
  · unfold oneN at hp
    split at hp
    · cases hp; omega
    · cases hp
  · cases he
  · have := (hN.row i hi).2; omega
end
end Go.Proofs.Ytpoinhfkgnkedaa.M
