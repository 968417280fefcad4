/-
  trie.Update of a live trie: where bytes are laid.
-/
import Derived.Test.YtpoinhfkgnkedaaTrUpd
import Derived.Test.YtpoinhfkgnkedaaIdx
import Derived.Test.YtpoinhfkgnkedaaCopyB
namespace Go.Proofs.Ytpoinhfkgnkedaa.M
open Go.RowKit Go.Shelf
set_option linter.unusedVariables false
set_option linter.unusedSectionVars false
set_option linter.unusedSimpArgs false
theorem sees_num {w : World} {va : Option Addr} {vn vc : Nat} {l : List Int} (h : Sees w (.slice va vn vc) (u8s l)) : vn = l.length := by
  rcases h with ⟨h, he⟩ | ⟨ad, c, h, hc, hx⟩
  · cases h
    have := congrArg List.length he
    rw [u8s_len] at this
    simp only [List.length_nil] at this
    omega
  · simp only [Value.slice.injEq] at h
    rw [← u8s_len l]; exact h.2.1
theorem freeI_some {f : Nat → Bool} {N p : Nat} (h : freeI f N = some p) : p < N ∧ f p = false := by
  unfold freeI at h
  have h1 := List.mem_of_find?_eq_some h
  have h2 := List.find?_some h
  rw [List.mem_range] at h1
  exact ⟨h1, by simpa using h2⟩
theorem splice_full (a b : List Value) (h : a.length = b.length) : splice a 0 b = b := by
  unfold splice
  simp [h]
set_option maxRecDepth 100000 in
set_option maxHeartbeats 4000000 in
theorem upd_hit {w : World} {P root U Rm K V N : Nat} {nd xs : Path → Option Nat} {pl kb : Nat → Nat} {f : Nat → Bool} {g : Nat → Nat} {rows : List (List Int)} (h : TrieS w P root U Rm K V N nd xs pl kb f g rows) (ad : Addr) (cp : Nat) (ks : List Int) (hn : ks.length = K) (hk : KeyOk ks) (hs : Sees w (.slice (some ad) ks.length cp) (u8s ks)) (va : Option Addr) (vn vc : Nat) (fl : Int) {e0 : Nat} (hx : xs (kbits ks) = some e0) (vs : List Int) (hvl : vs.length = V) (hvb : ByteL vs) (hsv : Sees w (.slice va vn vc) (u8s vs)) (hf : decide ((2 : Int) < fl) = false) (hf1 : (fl == 1) = false) :
    Calls Try.prog 12 #[.pointer (some ⟨P, 0, none⟩), .slice (some ad) ks.length cp, .slice va vn vc, .int .u64 fl] w fun e w' => e = .returned (.int .i64 0) ∧ TrieS w' P root U Rm K V N nd xs pl kb f g (rows.set (pl e0) vs) ∧ But [g (pl e0)] w w' := by
  subst hn
  have hch := check_w h.head ad cp ks rfl ⟨hk.four, hk.long⟩ hs hk.bytes
  rw [if_neg (by have := hk.fits; omega)] at hch
  have d4 : w.cell? ⟨P, 4, none⟩ = some (.pointer (some ⟨root, 0, none⟩)) := cl_of h.head 4
  have HCH := Lib.hid hch
  have HD4 := Lib.hid d4
  have HNN : Hid (N ≤ 1000000000) := Lib.hid (by have := h.num; omega)
  have HH := Lib.hid h
  have HK := Lib.hid hk
  have HS := Lib.hid hs
  have HX := Lib.hid hx
  have HSV := Lib.hid hsv
  have HVL := Lib.hid hvl
  have HVB := Lib.hid hvb
  have hvn := sees_num hsv
  subst hvn
  have hv : ((vs.length : Int) == (V : Int)) = true := by rw [beq_iff_eq, hvl]
  clear hsv hvl hvb
  clear hch h hk hs d4 hx
  go_enter Try.func12, Try.ntmps12
  go_wp2_with fail
  refine HCH.out.mono ?_
  rintro e w1 ⟨rfl, hb1⟩
  have HB1 := Lib.hid hb1
  clear hb1
  go_upto_region 4 with fail
  have HS0 : Hid (∀ wx, But [] w1 wx → wx.cell? ⟨P, 4, none⟩ = some (.pointer (some ⟨root, 0, none⟩))) := Lib.hid fun wx hx => cell_but (HB1.out.trans hx (by simp)) HD4.out (by simp)
  have d4 := HS0.out w1 (But.refl _ _)
  have HREACH : Hid (∀ wx, But [] w1 wx → ∀ P0, wx.heap[P0]? = some (.cells #[.slice (some ad) ks.length cp] 26) → Calls Try.prog 35 #[.pointer (some ⟨root, 0, none⟩), .func (.func 54) #[] #[.pointer (some ⟨P0, 0, none⟩)], .bool false] wx fun e w' => e = .returned (pv (nd (kbits ks))) ∧ But [] wx w') := Lib.hid fun wx hb P0 hP0 => by
    have hbw := HB1.out.trans hb (by simp)
    exact callsIn_wide.1 (reach_no P0 ad cp ks wx nd xs root ((HH.out.new hbw).tree) HH.out.rt hP0 (HS.out.but hbw (by simp)) HK.out)
  go_region_held3 (fun wx => wx.cell? ⟨P, 4, none⟩ = some (.pointer (some ⟨root, 0, none⟩))) (exact HS0.out _ (by repeat (first | assumption | exact But.refl _ _ | refine But.drew ?_ | refine But.alloc ?_ _))) (first
    | (go_at_call 36; (with_reducible refine (bits_c _ _ _ _).mono ?_); rintro e w7 ⟨rfl, rfl⟩)
    | (go_at_call 35; (with_reducible refine (HREACH.out _ (by repeat (first | exact But.refl _ _ | refine But.drew ?_ | refine But.alloc ?_ _)) _ (by first | exact al_drew _ _ | exact al_at _ _)).mono ?_); rintro e w8 ⟨rfl, h8⟩; have h81 : But [] w1 w8 := (by repeat (first | exact But.refl _ _ | refine But.drew ?_ | refine But.alloc ?_ _) : But [] w1 _).trans h8 (by simp); have hk8 := HS0.out w8 h81; have H8 := Lib.hid h81; clear h8 h81))
  have HB8 : Hid (But [] w w8) := Lib.hid (HB1.out.trans H8.out (by simp))
  clear HCH HREACH HS0 HD4
  obtain ⟨b, hq⟩ := HH.out.tree.ent _ _ HX.out
  have h9 := HH.out.new HB8.out
  have n2 : w8.cell? ⟨b, 2, none⟩ = some (pv (xs (kbits ks))) := cl_of (h9.tree.cell _ b hq) 2
  rw [HX.out] at n2
  rw [hq]
  unfold pv at n2 ⊢
  simp only [Option.map_some] at n2 ⊢
  have HQ := Lib.hid hq
  have HU := Lib.hid h9.used
  have p2 : w8.cell? ⟨P, 2, none⟩ = some (.int .i64 V) := cl_of h9.head 2
  have p5 : w8.cell? ⟨P, 5, none⟩ = some (.slice (some ⟨U, 0, none⟩) N N) := cl_of h9.head 5
  have H9 := Lib.hid h9
  clear hq h9 d4 hk8
  go_wp2_with fail
  refine (index_c U N f w8 HU.out HNN.out).mono ?_
  rintro e w9 ⟨rfl, rfl⟩
  have hpl := H9.out.plt _ _ HX.out
  obtain ⟨D, hD, hDs, hDc⟩ := id H9.out.room
  obtain ⟨r0, hr0⟩ : ∃ r0, rows[pl e0]? = some r0 := ⟨_, List.getElem?_eq_getElem (by rw [H9.out.rows.1]; exact hpl)⟩
  obtain ⟨hrow, hrl, hrb⟩ := H9.out.rows.2 _ _ hr0
  have p6 : w8.cell? ⟨P, 6, none⟩ = some (.slice (some ⟨Rm, 0, none⟩) N N) := cl_of H9.out.head 6
  have e1 : w8.cell? ⟨e0, 1, none⟩ = some (.int .i64 (pl e0 : Nat)) := cl_of (H9.out.ent _ _ HX.out) 1
  have r1 : w8.cell? ⟨Rm, pl e0, none⟩ = some (.slice (some ⟨g (pl e0), 0, none⟩) V V) := (cl_of hD _).trans (hDc _ hpl)
  have hlt1 : ((pl e0 : Nat) : Int) < (N : Int) := by omega
  have hlt0 : (0 : Int) ≤ ((pl e0 : Nat) : Int) := by omega
  have HROW : Hid (w8.drew.heap[g (pl e0)]? = some (.cells (u8s r0).toArray 5 (0, 0))) := Lib.hid hrow
  have HSV8 : Hid (Sees w8.drew (.slice va vs.length vc) (u8s vs)) := Lib.hid (HSV.out.but HB8.out.drew (by simp))
  have HRL : Hid (r0.length = V) := Lib.hid hrl
  have HPL := Lib.hid hpl
  clear hD hDs hDc hr0 hrow hrl hrb hpl
  go_upto_region 19 with fail
  refine wp_region_tail9 14 (by kernel_rfl) (by kernel_rfl) ?_
  simp only [List.take_succ_cons, List.take_zero, List.drop_succ_cons, List.drop_zero]
  repeat still_step
  refine wpStill_nil ?_
  refine wpList_copy_but rfl (.tmp 107) (.tmp 108) 26 26 rfl 5 Try.underlying26 (by kernel_rfl) (some ⟨g (pl e0), 0, none⟩) va V V vs.length vc rfl rfl (g (pl e0)) 0 (u8s r0) 5 HROW.out (u8s vs) (by rw [u8s_len, HVL.out]; exact (Nat.min_self V).symm) (fun h => ⟨rfl, sees_src HSV8.out h⟩) (by rw [u8s_len, u8s_len, HRL.out, HVL.out]; omega) (u8s_one _) ?_
  intro w5 hg5 hb5
  rw [splice_full _ _ (by rw [u8s_len, u8s_len, HRL.out, HVL.out])] at hg5
  have HB5 : Hid (But [g (pl e0)] w8 w5) := Lib.hid (((But.refl _ _).drew).trans hb5 (fun x hx => .inl hx))
  have HG5 := Lib.hid hg5
  clear hg5 hb5
  go_wp2_with fail
  go_ret
  exact ⟨rfl, H9.out.setRow HPL.out HVL.out HVB.out HG5.out HB5.out, (HB8.out.mono (by simp)).trans HB5.out (fun x hx => .inl hx)⟩
set_option maxRecDepth 100000 in
set_option maxHeartbeats 4000000 in
theorem upd_new_a {w : World} {P root U Rm K V N : Nat} {nd xs : Path → Option Nat} {pl kb : Nat → Nat} {f : Nat → Bool} {g : Nat → Nat} {rows : List (List Int)} (h : TrieS w P root U Rm K V N nd xs pl kb f g rows) (ad : Addr) (cp : Nat) (ks : List Int) (hn : ks.length = K) (hk : KeyOk ks) (hs : Sees w (.slice (some ad) ks.length cp) (u8s ks)) (va : Option Addr) (vn vc : Nat) (fl : Int) (had : ∀ π c, nd π = some c → c ≠ ad.block) (hav : ∀ b, Value.ownBlock (.slice va vn vc) = some b → ¬ ((∃ ρ, nd ρ = some b) ∨ b = U)) (hq : nd (kbits ks) = none) (hx : xs (kbits ks) = none) (vs : List Int) (hvl : vs.length = V) (hvb : ByteL vs) (hsv : Sees w (.slice va vn vc) (u8s vs)) (hf : decide ((2 : Int) < fl) = false) (hf2 : (fl == 2) = false) {p : Nat} (hfr : freeI f N = some p) :
    Calls Try.prog 12 #[.pointer (some ⟨P, 0, none⟩), .slice (some ad) ks.length cp, .slice va vn vc, .int .u64 fl] w fun e w' => e = .returned (.int .i64 0) ∧ ∃ nd' e1 q1, TrieS w' P root U Rm K V N nd' (plus xs (kbits ks) e1) (upd pl e1 p) (upd kb e1 q1) (upd f p true) g (rows.set p vs) ∧ (∀ π c, nd' π = some c → nd π = some c ∨ w.heap.size ≤ c) ∧ w.heap.size ≤ e1 ∧ w.heap.size ≤ q1 ∧ ∃ L, (∀ x ∈ L, ((∃ ρ, nd ρ = some x) ∨ x = U) ∨ x = g p) ∧ But L w w' := by
  subst hn
  have hch := check_w h.head ad cp ks rfl ⟨hk.four, hk.long⟩ hs hk.bytes
  rw [if_neg (by have := hk.fits; omega)] at hch
  have d4 : w.cell? ⟨P, 4, none⟩ = some (.pointer (some ⟨root, 0, none⟩)) := cl_of h.head 4
  have HCH := Lib.hid hch
  have HD4 := Lib.hid d4
  have HNN : Hid (N ≤ 1000000000) := Lib.hid (by have := h.num; omega)
  have HH := Lib.hid h
  have HK := Lib.hid hk
  have HS := Lib.hid hs
  have HX := Lib.hid hx
  have HSV := Lib.hid hsv
  have HVL := Lib.hid hvl
  have HVB := Lib.hid hvb
  have hvn := sees_num hsv
  subst hvn
  have hv : ((vs.length : Int) == (V : Int)) = true := by rw [beq_iff_eq, hvl]
  clear hsv hvl hvb
  have HAD : Hid (∀ π c, nd π = some c → c ≠ ad.block) := Lib.hid had
  have HQN := Lib.hid hq
  clear had hq
  have HAV := Lib.hid hav
  clear hav
  clear hch h hk hs d4 hx
  go_enter Try.func12, Try.ntmps12
  go_wp2_with fail
  refine HCH.out.mono ?_
  rintro e w1 ⟨rfl, hb1⟩
  have HB1 := Lib.hid hb1
  clear hb1
  go_upto_region 4 with fail
  have HS0 : Hid (∀ wx, But [] w1 wx → wx.cell? ⟨P, 4, none⟩ = some (.pointer (some ⟨root, 0, none⟩))) := Lib.hid fun wx hx => cell_but (HB1.out.trans hx (by simp)) HD4.out (by simp)
  have d4 := HS0.out w1 (But.refl _ _)
  have HREACH : Hid (∀ wx, But [] w1 wx → ∀ P0, wx.heap[P0]? = some (.cells #[.slice (some ad) ks.length cp] 26) → Calls Try.prog 35 #[.pointer (some ⟨root, 0, none⟩), .func (.func 54) #[] #[.pointer (some ⟨P0, 0, none⟩)], .bool false] wx fun e w' => e = .returned (pv (nd (kbits ks))) ∧ But [] wx w') := Lib.hid fun wx hb P0 hP0 => by
    have hbw := HB1.out.trans hb (by simp)
    exact callsIn_wide.1 (reach_no P0 ad cp ks wx nd xs root ((HH.out.new hbw).tree) HH.out.rt hP0 (HS.out.but hbw (by simp)) HK.out)
  go_region_held3 (fun wx => wx.cell? ⟨P, 4, none⟩ = some (.pointer (some ⟨root, 0, none⟩))) (exact HS0.out _ (by repeat (first | assumption | exact But.refl _ _ | refine But.drew ?_ | refine But.alloc ?_ _))) (first
    | (go_at_call 36; (with_reducible refine (bits_c _ _ _ _).mono ?_); rintro e w7 ⟨rfl, rfl⟩)
    | (go_at_call 35; (with_reducible refine (HREACH.out _ (by repeat (first | exact But.refl _ _ | refine But.drew ?_ | refine But.alloc ?_ _)) _ (by first | exact al_drew _ _ | exact al_at _ _)).mono ?_); rintro e w8 ⟨rfl, h8⟩; have h81 : But [] w1 w8 := (by repeat (first | exact But.refl _ _ | refine But.drew ?_ | refine But.alloc ?_ _) : But [] w1 _).trans h8 (by simp); have hk8 := HS0.out w8 h81; have H8 := Lib.hid h81; clear h8 h81))
  have HB8 : Hid (But [] w w8) := Lib.hid (HB1.out.trans H8.out (by simp))
  clear HCH HREACH HS0 HD4
  have h9 := HH.out.new HB8.out
  rw [HQN.out]
  unfold pv
  simp only [Option.map_none]
  have HU := Lib.hid h9.used
  have p2 : w8.cell? ⟨P, 2, none⟩ = some (.int .i64 V) := cl_of h9.head 2
  have p5 : w8.cell? ⟨P, 5, none⟩ = some (.slice (some ⟨U, 0, none⟩) N N) := cl_of h9.head 5
  have H9 := Lib.hid h9
  clear h9 d4 hk8
  go_wp2_with fail
  refine (index_c U N f w8 HU.out HNN.out).mono ?_
  rintro e w9 ⟨rfl, rfl⟩
  rw [hfr]
  unfold freeV
  have HFR : Hid (freeI f N = some p) := Lib.hid hfr
  go_wp2_with fail
  have d4 : w8.cell? ⟨P, 4, none⟩ = some (.pointer (some ⟨root, 0, none⟩)) := cl_of H9.out.head 4
  have HREACH : Hid (∀ wx, But [] w8 wx → ∀ P0, wx.heap[P0]? = some (.cells #[.slice (some ad) ks.length cp] 26) → w8.heap.size ≤ P0 → Calls Try.prog 35 #[.pointer (some ⟨root, 0, none⟩), .func (.func 54) #[] #[.pointer (some ⟨P0, 0, none⟩)], .bool true] wx fun e w' => ∃ nd' b', e = .returned (.pointer (some ⟨b', 0, none⟩)) ∧ nd' (kbits ks) = some b' ∧ (∀ π c, nd' π = some c → nd π = some c ∨ w8.heap.size ≤ c) ∧ (∃ L, (∀ x ∈ L, ∃ ρ, nd ρ = some x) ∧ But L w8 w') ∧ TrieS w' P root U Rm ks.length V N nd' xs pl kb f g rows) := Lib.hid fun wx hb P0 hP0 hlo => by
    have hx := H9.out.new hb
    have hsz := hb.size
    refine (callsIn_wide.1 (reach_yes P0 ad cp ks wx nd xs root hx.tree hx.rt hP0 (HS.out.but (HB8.out.trans hb (by simp)) (by simp)) HK.out (fun π c hc => ⟨fun e => by
      have := H9.out.tree.lt hc
      omega, ?_⟩))).mono ?_
    · exact HAD.out π c hc
    · rintro e w' ⟨nd', rfl, hG⟩
      obtain ⟨b', hb'⟩ := hG.here
      obtain ⟨L, hL, hbL⟩ := hG.but
      exact ⟨nd', b', by rw [hb']; rfl, hb', fun π c hc => (hG.new π c hc).imp id (fun h => by omega), ⟨L, hL, (hb.mono (by simp)).trans hbL (fun x hx => .inl hx)⟩, hx.grown hG⟩
  have HS8 : Hid (∀ wx, But [] w8 wx → wx.cell? ⟨P, 4, none⟩ = some (.pointer (some ⟨root, 0, none⟩))) := Lib.hid fun wx hx => cell_but hx (cl_of H9.out.head 4) (by simp)
  go_region_held3 (fun wx => wx.cell? ⟨P, 4, none⟩ = some (.pointer (some ⟨root, 0, none⟩))) (first | assumption | exact HS8.out _ (by repeat (first | exact But.refl _ _ | refine But.drew ?_ | refine But.alloc ?_ _))) (first
    | (go_at_call 36; (with_reducible refine (bits_c _ _ _ _).mono ?_); rintro e w10 ⟨rfl, rfl⟩)
    | (go_at_call 35; (with_reducible refine (HREACH.out _ (by repeat (first | exact But.refl _ _ | refine But.drew ?_ | refine But.alloc ?_ _)) _ (by first | exact al_drew _ _ | exact al_at _ _) (Nat.le_refl _)).mono ?_); rintro e w11 ⟨nd', b', rfl, hb', hnew, hbl, h11⟩; have hk11 : w11.cell? ⟨P, 4, none⟩ = some (.pointer (some ⟨root, 0, none⟩)) := cl_of h11.head 4; have HB' := Lib.hid hb'; have HNEW := Lib.hid hnew; have HBL := Lib.hid hbl; have H11 := Lib.hid h11; clear hb' hnew hbl h11))
  clear d4 p2 p5 hk11
  have hbw11 : ∃ L, (∀ x ∈ L, ∃ ρ, nd ρ = some x) ∧ But L w w11 := by
    obtain ⟨L, hL, hb⟩ := HBL.out
    exact ⟨L, hL, (HB8.out.mono (by simp)).trans hb (fun x hx => .inl hx)⟩
  have HBW := Lib.hid hbw11
  have HS11 : Hid (Sees w11 (.slice (some ad) ks.length cp) (u8s ks)) := Lib.hid (by
    obtain ⟨L, hL, hb⟩ := HBW.out
    exact HS.out.but hb (fun k hk hm => by cases hk; obtain ⟨ρ, hρ⟩ := hL _ hm; exact HAD.out _ _ hρ rfl))
  clear hbw11
  have hfp : p < N ∧ f p = false := freeI_some HFR.out
  obtain ⟨hpN, hfp⟩ := hfp
  obtain ⟨C, hC, hCs, hCc⟩ := id H11.out.used
  have hcell := H11.out.tree.cell _ _ HB'.out
  rw [HX.out] at hcell
  have q2 : w11.cell? ⟨b', 2, none⟩ = some (.pointer none) := cl_of hcell 2
  have q2f : w11.frozen? ⟨b', 2, none⟩ = false := fz_of hcell 2
  have u1 : w11.cell? ⟨U, p, none⟩ = some (.bool (f p)) := (cl_of hC _).trans (hCc _ hpN)
  have u1f : w11.frozen? ⟨U, p, none⟩ = false := fz_of hC _
  have hbU : b' ≠ U := (H11.out.notNode ⟨_, HB'.out⟩).2.1
  have p5 : w11.cell? ⟨P, 5, none⟩ = some (.slice (some ⟨U, 0, none⟩) N N) := cl_of H11.out.head 5
  have hlt1 : ((p : Nat) : Int) < (N : Int) := by omega
  have hPL : Hid (∀ wx, But [] w11 wx → Calls Try.prog 38 #[.slice (some ad) ks.length cp] wx fun e w' => e = .returned (.slice (some ⟨wx.heap.size, 0, none⟩) ks.length ks.length) ∧ w'.heap[wx.heap.size]? = some (.cells (u8s (plainK ks)).toArray 5) ∧ But [] wx w' ∧ (w'.cell? ⟨P, 5, none⟩ = some (.slice (some ⟨U, 0, none⟩) N N) ∧ w'.cell? ⟨b', 2, none⟩ = some (.pointer none) ∧ w'.frozen? ⟨b', 2, none⟩ = false ∧ w'.cell? ⟨U, p, none⟩ = some (.bool (f p)) ∧ w'.frozen? ⟨U, p, none⟩ = false)) := Lib.hid fun wx hb => (callsIn_wide.1 (plain_w ad cp ks wx (HS11.out.but hb (by simp)) HK.out)).mono fun e w' ⟨h1, h2, h3⟩ => ⟨h1, h2, h3, cell_but (hb.trans h3 (by simp)) p5 (by simp), cell_but (hb.trans h3 (by simp)) q2 (by simp), fz_of ((hb.trans h3 (by simp)).heap hcell (by simp)) 2, cell_but (hb.trans h3 (by simp)) u1 (by simp), fz_of ((hb.trans h3 (by simp)).heap hC (by simp)) _⟩
  have hUb : U ≠ b' := hbU.symm
  have hbP : b' ≠ P := (H11.out.notNode ⟨_, HB'.out⟩).1
  have hPb : P ≠ b' := hbP.symm
  have hUP : U ≠ P := ne_type hC H11.out.head (by decide)
  have hPU : P ≠ U := hUP.symm
  have HC := Lib.hid (show ∃ C, w11.heap[U]? = some (.cells C 4 (0, 0)) ∧ C.size = N ∧ ∀ i, i < N → C[i]? = some (.bool (f i)) from ⟨C, hC, hCs, hCc⟩)
  have HCELL := Lib.hid hcell
  have HPN := Lib.hid hpN
  have HFP := Lib.hid hfp
  have HP5 : Hid (∀ wx, But [b', U] w11 wx → wx.cell? ⟨P, 5, none⟩ = some (.slice (some ⟨U, 0, none⟩) N N)) := Lib.hid fun wx hx => cell_but hx p5 (by simp; exact ⟨hPb, hPU⟩)
  clear hC hCs hCc hcell hpN hfp
  go_wp2_with fail
  go_region_held3 (fun wx => wx.cell? ⟨P, 5, none⟩ = some (.slice (some ⟨U, 0, none⟩) N N)) (first | assumption | exact HP5.out _ (by repeat (first | exact But.refl _ _ | (with_reducible exact H12B.out.mono (by simp)) | refine But.drew ?_ | refine But.alloc ?_ _ | refine But.setCell ?_ (.inl (by simp)) _)) | go_keep) (first
    | (go_at_call 38; (with_reducible refine (hPL.out _ (by repeat (first | exact But.refl _ _ | refine But.drew ?_ | refine But.alloc ?_ _))).mono ?_); rintro e w12 ⟨rfl, hrow, hb12, hk1, hk2, hk3, hk4, hk5⟩; have HROW12 := Lib.hid hrow; have H12B : Hid (But [] w11 w12) := Lib.hid (((But.refl _ _).drew).trans hb12 (by simp)); have hk2a : ∀ o, (w12.alloc o).cell? ⟨b', 2, none⟩ = some (.pointer none) := (fun o => cell_but ((But.refl [] _).alloc o) hk2 (by simp)); have hk3a : ∀ o, (w12.alloc o).frozen? ⟨b', 2, none⟩ = false := (fun o => fz_of (((But.refl _ _).drew.trans (hb12.alloc o) (by simp) : But [] w11 _).heap HCELL.out (by simp)) 2); have hk4a : ∀ o, (w12.alloc o).cell? ⟨U, p, none⟩ = some (.bool (f p)) := (fun o => cell_but ((But.refl [] _).alloc o) hk4 (by simp)); have hk5a : ∀ o, (w12.alloc o).frozen? ⟨U, p, none⟩ = false := (fun o => by obtain ⟨C, hC, _⟩ := HC.out; exact fz_of (((But.refl _ _).drew.trans (hb12.alloc o) (by simp) : But [] w11 _).heap hC (by simp)) _); clear hrow hb12))
  generalize hw13 : ((w12.alloc (.cells #[.slice (some ⟨w11.heap.size, 0, none⟩) ks.length ks.length, .int .i64 (p : Nat)] 70)).setCell ⟨b', 2, none⟩ (.pointer (some ⟨w12.heap.size, 0, none⟩))).setCell ⟨U, p, none⟩ (.bool true) = w13
  have HW13 := Lib.hid hw13.symm
  have hz12 := H12B.out.size
  have hbl : b' < w11.heap.size := H11.out.tree.lt HB'.out
  have hUl : U < w11.heap.size := lt_of HC.out.choose_spec.1
  have hb13 : But [b', U] w11 w13 := by rw [HW13.out]; exact (((H12B.out.mono (by simp)).alloc _).setCell (.inl (by simp)) _).setCell (.inl (by simp)) _
  have k1 : w13.heap[w11.heap.size]? = some (.cells (u8s (plainK ks)).toArray 5) := by
    rw [HW13.out, heap_setN (by omega), heap_setN (by omega)]
    exact al_keep HROW12.out _
  have k2 : w13.heap[w12.heap.size]? = some (.cells #[.slice (some ⟨w11.heap.size, 0, none⟩) ks.length ks.length, .int .i64 (p : Nat)] 70) := by
    rw [HW13.out, heap_setN (by omega), heap_setN (by omega)]
    exact al_at _ _
  have k3 : w13.heap[b']? = some (.cells (nodeCells (nd' (kbits ks ++ [0])) (nd' (kbits ks ++ [1])) (some w12.heap.size)) 67) := by
    have hc : (w12.alloc (.cells #[.slice (some ⟨w11.heap.size, 0, none⟩) ks.length ks.length, .int .i64 (p : Nat)] 70)).heap[b']? = _ := al_keep (H12B.out.heap HCELL.out (by simp)) _
    rw [HW13.out, heap_setN hUb, heap_setC hc]
    rfl
  have k4 : UsedW w13 U N (upd f p true) := by
    obtain ⟨C, hC, hCs, hCc⟩ := HC.out
    have hc : ((w12.alloc (.cells #[.slice (some ⟨w11.heap.size, 0, none⟩) ks.length ks.length, .int .i64 (p : Nat)] 70)).setCell ⟨b', 2, none⟩ (.pointer (some ⟨w12.heap.size, 0, none⟩))).heap[U]? = _ := (heap_setN hbU).trans (al_keep (H12B.out.heap hC (by simp)) _)
    refine ⟨C.set! p (.bool true), ?_, by simp [hCs], fun i hi => ?_⟩
    · rw [HW13.out, heap_setC hc]
    · by_cases ei : i = p
      · subst ei
        rw [upd_at]
        simp [hCs, HPN.out]
      · rw [upd_ne _ _ ei, ← hCc i hi]
        simp [Array.getElem?_setIfInBounds_ne (Ne.symm ei)]
  have h13 := H11.out.put HB'.out HX.out HPN.out HFP.out HK.out rfl rfl (Nat.le_refl _) hz12 k1 k2 k3 k4 hb13
  have hz8 := HB8.out.size
  obtain ⟨e0, he0⟩ : ∃ e0, e0 = w12.heap.size := ⟨_, rfl⟩
  obtain ⟨q0, hq0⟩ : ∃ q0, q0 = w11.heap.size := ⟨_, rfl⟩
  have hbT : ∃ L, (∀ x ∈ L, (∃ ρ, nd ρ = some x) ∨ x = U) ∧ But L w w13 := by
    obtain ⟨L, hL, hb⟩ := HBW.out
    rcases HNEW.out _ _ HB'.out with ho | ho
    · refine ⟨L ++ [b', U], fun x hx => ?_, hb.join hb13⟩
      rcases List.mem_append.1 hx with hx | hx
      · exact .inl (hL x hx)
      · simp only [List.mem_cons, List.not_mem_nil, or_false] at hx
        rcases hx with rfl | rfl
        · exact .inl ⟨_, ho⟩
        · exact .inr rfl
    · refine ⟨L ++ [U], fun x hx => ?_, (hb.mono (fun x hx => List.mem_append_left _ hx)).trans hb13 (fun x hx => ?_)⟩
      · rcases List.mem_append.1 hx with hx | hx
        · exact .inl (hL x hx)
        · simp only [List.mem_singleton] at hx
          exact .inr hx
      · simp only [List.mem_cons, List.not_mem_nil, or_false] at hx
        rcases hx with rfl | rfl
        · exact .inr (by omega)
        · exact .inl (by simp)
  have HBT := Lib.hid hbT
  have n2 : w13.cell? ⟨b', 2, none⟩ = some (.pointer (some ⟨e0, 0, none⟩)) := by rw [he0]; exact cl_of k3 2
  rw [← he0, ← hq0] at h13
  rw [← he0]
  have HE0 : Hid (w.heap.size ≤ e0 ∧ w.heap.size ≤ q0) := Lib.hid (by
    obtain ⟨L, hL, hb⟩ := HBW.out
    have := hb.size
    omega)
  obtain ⟨pl', hpl'⟩ : ∃ pl', pl' = upd pl e0 p := ⟨_, rfl⟩
  obtain ⟨xs', hxs'⟩ : ∃ xs', xs' = plus xs (kbits ks) e0 := ⟨_, rfl⟩
  have hple : pl' e0 = p := by rw [hpl', upd_at]
  have hxe : xs' (kbits ks) = some e0 := by rw [hxs', plus_at]
  rw [← hpl', ← hxs'] at h13
  have HPL' := Lib.hid hpl'
  have HXS' := Lib.hid hxs'
  have H13 := Lib.hid h13
  have HXE := Lib.hid hxe
  have HPLE := Lib.hid hple
  obtain ⟨D, hD, hDs, hDc⟩ := id H13.out.room
  have hpN := HPN.out
  obtain ⟨r0, hr0⟩ : ∃ r0, rows[p]? = some r0 := ⟨_, List.getElem?_eq_getElem (by rw [H13.out.rows.1]; exact hpN)⟩
  obtain ⟨hrow, hrl, hrb⟩ := H13.out.rows.2 _ _ hr0
  have p6 : w13.cell? ⟨P, 6, none⟩ = some (.slice (some ⟨Rm, 0, none⟩) N N) := cl_of H13.out.head 6
  have e1 : w13.cell? ⟨e0, 1, none⟩ = some (.int .i64 (p : Nat)) := by rw [← HPLE.out]; exact cl_of (H13.out.ent _ _ HXE.out) 1
  have r1 : w13.cell? ⟨Rm, p, none⟩ = some (.slice (some ⟨g p, 0, none⟩) V V) := (cl_of hD _).trans (hDc _ hpN)
  have hlt0 : (0 : Int) ≤ ((p : Nat) : Int) := by omega
  have HROW : Hid (w13.drew.heap[g p]? = some (.cells (u8s r0).toArray 5 (0, 0))) := Lib.hid hrow
  have HSVT : Hid (Sees w13.drew (.slice va vs.length vc) (u8s vs)) := Lib.hid (by
    obtain ⟨L, hL, hb⟩ := HBT.out
    exact HSV.out.but hb.drew (fun k hk hm => HAV.out k hk (hL k hm)))
  have HRL : Hid (r0.length = V) := Lib.hid hrl
  clear hD hDs hDc hr0 hrow hrl hrb hpN h13 hpl' hxs' hxe hple k1 k2 k3 k4 hb13 hbT hw13 hz12 hbl hUl hz8 he0 hq0 hk1 hk2 hk3 hk4 hk5 hk2a hk3a hk4a hk5a q2 q2f u1 u1f p5 hbU hUb hbP hPb hUP hPU
  go_upto_region 19 with fail
  refine wp_region_tail9 14 (by kernel_rfl) (by kernel_rfl) ?_
  simp only [List.take_succ_cons, List.take_zero, List.drop_succ_cons, List.drop_zero]
  repeat still_step
  refine wpStill_nil ?_
  refine wpList_copy_but rfl (.tmp 107) (.tmp 108) 26 26 rfl 5 Try.underlying26 (by kernel_rfl) (some ⟨g p, 0, none⟩) va V V vs.length vc rfl rfl (g p) 0 (u8s r0) 5 HROW.out (u8s vs) (by rw [u8s_len, HVL.out]; exact (Nat.min_self V).symm) (fun h => ⟨rfl, sees_src HSVT.out h⟩) (by rw [u8s_len, u8s_len, HRL.out, HVL.out]; omega) (u8s_one _) ?_
  intro w5 hg5 hb5
  rw [splice_full _ _ (by rw [u8s_len, u8s_len, HRL.out, HVL.out])] at hg5
  have HB5 : Hid (But [g p] w13 w5) := Lib.hid (((But.refl _ _).drew).trans hb5 (fun x hx => .inl hx))
  have HG5 := Lib.hid hg5
  clear hg5 hb5
  go_wp2_with fail
  go_ret
  have h5 := H13.out.setRow HPN.out HVL.out HVB.out HG5.out HB5.out
  rw [HPL'.out, HXS'.out] at h5
  refine ⟨rfl, nd', e0, q0, h5, fun π c hc => (HNEW.out π c hc).imp id (fun h => Nat.le_trans HB8.out.size h), HE0.out.1, HE0.out.2, ?_⟩
  obtain ⟨L, hL, hb⟩ := HBT.out
  refine ⟨L ++ [g p], fun x hx => ?_, hb.join HB5.out⟩
  rcases List.mem_append.1 hx with hx | hx
  · exact .inl (hL x hx)
  · exact .inr (by simpa using hx)
set_option maxRecDepth 100000 in
set_option maxHeartbeats 4000000 in
theorem upd_new_b {w : World} {P root U Rm K V N : Nat} {nd xs : Path → Option Nat} {pl kb : Nat → Nat} {f : Nat → Bool} {g : Nat → Nat} {rows : List (List Int)} (h : TrieS w P root U Rm K V N nd xs pl kb f g rows) (ad : Addr) (cp : Nat) (ks : List Int) (hn : ks.length = K) (hk : KeyOk ks) (hs : Sees w (.slice (some ad) ks.length cp) (u8s ks)) (va : Option Addr) (vn vc : Nat) (fl : Int) {b : Nat} (had : ∀ π c, nd π = some c → c ≠ ad.block) (hav : ∀ b, Value.ownBlock (.slice va vn vc) = some b → ¬ ((∃ ρ, nd ρ = some b) ∨ b = U)) (hq : nd (kbits ks) = some b) (hx : xs (kbits ks) = none) (vs : List Int) (hvl : vs.length = V) (hvb : ByteL vs) (hsv : Sees w (.slice va vn vc) (u8s vs)) (hf : decide ((2 : Int) < fl) = false) (hf2 : (fl == 2) = false) {p : Nat} (hfr : freeI f N = some p) :
    Calls Try.prog 12 #[.pointer (some ⟨P, 0, none⟩), .slice (some ad) ks.length cp, .slice va vn vc, .int .u64 fl] w fun e w' => e = .returned (.int .i64 0) ∧ ∃ nd' e1 q1, TrieS w' P root U Rm K V N nd' (plus xs (kbits ks) e1) (upd pl e1 p) (upd kb e1 q1) (upd f p true) g (rows.set p vs) ∧ (∀ π c, nd' π = some c → nd π = some c ∨ w.heap.size ≤ c) ∧ w.heap.size ≤ e1 ∧ w.heap.size ≤ q1 ∧ ∃ L, (∀ x ∈ L, ((∃ ρ, nd ρ = some x) ∨ x = U) ∨ x = g p) ∧ But L w w' := by
  subst hn
  have hch := check_w h.head ad cp ks rfl ⟨hk.four, hk.long⟩ hs hk.bytes
  rw [if_neg (by have := hk.fits; omega)] at hch
  have d4 : w.cell? ⟨P, 4, none⟩ = some (.pointer (some ⟨root, 0, none⟩)) := cl_of h.head 4
  have HCH := Lib.hid hch
  have HD4 := Lib.hid d4
  have HNN : Hid (N ≤ 1000000000) := Lib.hid (by have := h.num; omega)
  have HH := Lib.hid h
  have HK := Lib.hid hk
  have HS := Lib.hid hs
  have HX := Lib.hid hx
  have HSV := Lib.hid hsv
  have HVL := Lib.hid hvl
  have HVB := Lib.hid hvb
  have hvn := sees_num hsv
  subst hvn
  have hv : ((vs.length : Int) == (V : Int)) = true := by rw [beq_iff_eq, hvl]
  clear hsv hvl hvb
  have HAD : Hid (∀ π c, nd π = some c → c ≠ ad.block) := Lib.hid had
  have HQN := Lib.hid hq
  clear had hq
  have HAV := Lib.hid hav
  clear hav
  clear hch h hk hs d4 hx
  go_enter Try.func12, Try.ntmps12
  go_wp2_with fail
  refine HCH.out.mono ?_
  rintro e w1 ⟨rfl, hb1⟩
  have HB1 := Lib.hid hb1
  clear hb1
  go_upto_region 4 with fail
  have HS0 : Hid (∀ wx, But [] w1 wx → wx.cell? ⟨P, 4, none⟩ = some (.pointer (some ⟨root, 0, none⟩))) := Lib.hid fun wx hx => cell_but (HB1.out.trans hx (by simp)) HD4.out (by simp)
  have d4 := HS0.out w1 (But.refl _ _)
  have HREACH : Hid (∀ wx, But [] w1 wx → ∀ P0, wx.heap[P0]? = some (.cells #[.slice (some ad) ks.length cp] 26) → Calls Try.prog 35 #[.pointer (some ⟨root, 0, none⟩), .func (.func 54) #[] #[.pointer (some ⟨P0, 0, none⟩)], .bool false] wx fun e w' => e = .returned (pv (nd (kbits ks))) ∧ But [] wx w') := Lib.hid fun wx hb P0 hP0 => by
    have hbw := HB1.out.trans hb (by simp)
    exact callsIn_wide.1 (reach_no P0 ad cp ks wx nd xs root ((HH.out.new hbw).tree) HH.out.rt hP0 (HS.out.but hbw (by simp)) HK.out)
  go_region_held3 (fun wx => wx.cell? ⟨P, 4, none⟩ = some (.pointer (some ⟨root, 0, none⟩))) (exact HS0.out _ (by repeat (first | assumption | exact But.refl _ _ | refine But.drew ?_ | refine But.alloc ?_ _))) (first
    | (go_at_call 36; (with_reducible refine (bits_c _ _ _ _).mono ?_); rintro e w7 ⟨rfl, rfl⟩)
    | (go_at_call 35; (with_reducible refine (HREACH.out _ (by repeat (first | exact But.refl _ _ | refine But.drew ?_ | refine But.alloc ?_ _)) _ (by first | exact al_drew _ _ | exact al_at _ _)).mono ?_); rintro e w8 ⟨rfl, h8⟩; have h81 : But [] w1 w8 := (by repeat (first | exact But.refl _ _ | refine But.drew ?_ | refine But.alloc ?_ _) : But [] w1 _).trans h8 (by simp); have hk8 := HS0.out w8 h81; have H8 := Lib.hid h81; clear h8 h81))
  have HB8 : Hid (But [] w w8) := Lib.hid (HB1.out.trans H8.out (by simp))
  clear HCH HREACH HS0 HD4
  have h9 := HH.out.new HB8.out
  have n2 : w8.cell? ⟨b, 2, none⟩ = some (pv (xs (kbits ks))) := cl_of (h9.tree.cell _ b HQN.out) 2
  rw [HX.out] at n2
  rw [HQN.out]
  unfold pv at n2 ⊢
  simp only [Option.map_none, Option.map_some] at n2 ⊢
  have HU := Lib.hid h9.used
  have p2 : w8.cell? ⟨P, 2, none⟩ = some (.int .i64 V) := cl_of h9.head 2
  have p5 : w8.cell? ⟨P, 5, none⟩ = some (.slice (some ⟨U, 0, none⟩) N N) := cl_of h9.head 5
  have H9 := Lib.hid h9
  clear h9 d4 hk8
  go_wp2_with fail
  refine (index_c U N f w8 HU.out HNN.out).mono ?_
  rintro e w9 ⟨rfl, rfl⟩
  rw [hfr]
  unfold freeV
  have HFR : Hid (freeI f N = some p) := Lib.hid hfr
  go_wp2_with fail
  have d4 : w8.cell? ⟨P, 4, none⟩ = some (.pointer (some ⟨root, 0, none⟩)) := cl_of H9.out.head 4
  have HREACH : Hid (∀ wx, But [] w8 wx → ∀ P0, wx.heap[P0]? = some (.cells #[.slice (some ad) ks.length cp] 26) → w8.heap.size ≤ P0 → Calls Try.prog 35 #[.pointer (some ⟨root, 0, none⟩), .func (.func 54) #[] #[.pointer (some ⟨P0, 0, none⟩)], .bool true] wx fun e w' => ∃ nd' b', e = .returned (.pointer (some ⟨b', 0, none⟩)) ∧ nd' (kbits ks) = some b' ∧ (∀ π c, nd' π = some c → nd π = some c ∨ w8.heap.size ≤ c) ∧ (∃ L, (∀ x ∈ L, ∃ ρ, nd ρ = some x) ∧ But L w8 w') ∧ TrieS w' P root U Rm ks.length V N nd' xs pl kb f g rows) := Lib.hid fun wx hb P0 hP0 hlo => by
    have hx := H9.out.new hb
    have hsz := hb.size
    refine (callsIn_wide.1 (reach_yes P0 ad cp ks wx nd xs root hx.tree hx.rt hP0 (HS.out.but (HB8.out.trans hb (by simp)) (by simp)) HK.out (fun π c hc => ⟨fun e => by
      have := H9.out.tree.lt hc
      omega, ?_⟩))).mono ?_
    · exact HAD.out π c hc
    · rintro e w' ⟨nd', rfl, hG⟩
      obtain ⟨b', hb'⟩ := hG.here
      obtain ⟨L, hL, hbL⟩ := hG.but
      exact ⟨nd', b', by rw [hb']; rfl, hb', fun π c hc => (hG.new π c hc).imp id (fun h => by omega), ⟨L, hL, (hb.mono (by simp)).trans hbL (fun x hx => .inl hx)⟩, hx.grown hG⟩
  have HS8 : Hid (∀ wx, But [] w8 wx → wx.cell? ⟨P, 4, none⟩ = some (.pointer (some ⟨root, 0, none⟩))) := Lib.hid fun wx hx => cell_but hx (cl_of H9.out.head 4) (by simp)
  go_region_held3 (fun wx => wx.cell? ⟨P, 4, none⟩ = some (.pointer (some ⟨root, 0, none⟩))) (first | assumption | exact HS8.out _ (by repeat (first | exact But.refl _ _ | refine But.drew ?_ | refine But.alloc ?_ _))) (first
    | (go_at_call 36; (with_reducible refine (bits_c _ _ _ _).mono ?_); rintro e w10 ⟨rfl, rfl⟩)
    | (go_at_call 35; (with_reducible refine (HREACH.out _ (by repeat (first | exact But.refl _ _ | refine But.drew ?_ | refine But.alloc ?_ _)) _ (by first | exact al_drew _ _ | exact al_at _ _) (Nat.le_refl _)).mono ?_); rintro e w11 ⟨nd', b', rfl, hb', hnew, hbl, h11⟩; have hk11 : w11.cell? ⟨P, 4, none⟩ = some (.pointer (some ⟨root, 0, none⟩)) := cl_of h11.head 4; have HB' := Lib.hid hb'; have HNEW := Lib.hid hnew; have HBL := Lib.hid hbl; have H11 := Lib.hid h11; clear hb' hnew hbl h11))
  clear d4 p2 p5 hk11
  have hbw11 : ∃ L, (∀ x ∈ L, ∃ ρ, nd ρ = some x) ∧ But L w w11 := by
    obtain ⟨L, hL, hb⟩ := HBL.out
    exact ⟨L, hL, (HB8.out.mono (by simp)).trans hb (fun x hx => .inl hx)⟩
  have HBW := Lib.hid hbw11
  have HS11 : Hid (Sees w11 (.slice (some ad) ks.length cp) (u8s ks)) := Lib.hid (by
    obtain ⟨L, hL, hb⟩ := HBW.out
    exact HS.out.but hb (fun k hk hm => by cases hk; obtain ⟨ρ, hρ⟩ := hL _ hm; exact HAD.out _ _ hρ rfl))
  clear hbw11
  have hfp : p < N ∧ f p = false := freeI_some HFR.out
  obtain ⟨hpN, hfp⟩ := hfp
  obtain ⟨C, hC, hCs, hCc⟩ := id H11.out.used
  have hcell := H11.out.tree.cell _ _ HB'.out
  rw [HX.out] at hcell
  have q2 : w11.cell? ⟨b', 2, none⟩ = some (.pointer none) := cl_of hcell 2
  have q2f : w11.frozen? ⟨b', 2, none⟩ = false := fz_of hcell 2
  have u1 : w11.cell? ⟨U, p, none⟩ = some (.bool (f p)) := (cl_of hC _).trans (hCc _ hpN)
  have u1f : w11.frozen? ⟨U, p, none⟩ = false := fz_of hC _
  have hbU : b' ≠ U := (H11.out.notNode ⟨_, HB'.out⟩).2.1
  have p5 : w11.cell? ⟨P, 5, none⟩ = some (.slice (some ⟨U, 0, none⟩) N N) := cl_of H11.out.head 5
  have hlt1 : ((p : Nat) : Int) < (N : Int) := by omega
  have hPL : Hid (∀ wx, But [] w11 wx → Calls Try.prog 38 #[.slice (some ad) ks.length cp] wx fun e w' => e = .returned (.slice (some ⟨wx.heap.size, 0, none⟩) ks.length ks.length) ∧ w'.heap[wx.heap.size]? = some (.cells (u8s (plainK ks)).toArray 5) ∧ But [] wx w' ∧ (w'.cell? ⟨P, 5, none⟩ = some (.slice (some ⟨U, 0, none⟩) N N) ∧ w'.cell? ⟨b', 2, none⟩ = some (.pointer none) ∧ w'.frozen? ⟨b', 2, none⟩ = false ∧ w'.cell? ⟨U, p, none⟩ = some (.bool (f p)) ∧ w'.frozen? ⟨U, p, none⟩ = false)) := Lib.hid fun wx hb => (callsIn_wide.1 (plain_w ad cp ks wx (HS11.out.but hb (by simp)) HK.out)).mono fun e w' ⟨h1, h2, h3⟩ => ⟨h1, h2, h3, cell_but (hb.trans h3 (by simp)) p5 (by simp), cell_but (hb.trans h3 (by simp)) q2 (by simp), fz_of ((hb.trans h3 (by simp)).heap hcell (by simp)) 2, cell_but (hb.trans h3 (by simp)) u1 (by simp), fz_of ((hb.trans h3 (by simp)).heap hC (by simp)) _⟩
  have hUb : U ≠ b' := hbU.symm
  have hbP : b' ≠ P := (H11.out.notNode ⟨_, HB'.out⟩).1
  have hPb : P ≠ b' := hbP.symm
  have hUP : U ≠ P := ne_type hC H11.out.head (by decide)
  have hPU : P ≠ U := hUP.symm
  have HC := Lib.hid (show ∃ C, w11.heap[U]? = some (.cells C 4 (0, 0)) ∧ C.size = N ∧ ∀ i, i < N → C[i]? = some (.bool (f i)) from ⟨C, hC, hCs, hCc⟩)
  have HCELL := Lib.hid hcell
  have HPN := Lib.hid hpN
  have HFP := Lib.hid hfp
  have HP5 : Hid (∀ wx, But [b', U] w11 wx → wx.cell? ⟨P, 5, none⟩ = some (.slice (some ⟨U, 0, none⟩) N N)) := Lib.hid fun wx hx => cell_but hx p5 (by simp; exact ⟨hPb, hPU⟩)
  clear hC hCs hCc hcell hpN hfp
  go_wp2_with fail
  go_region_held3 (fun wx => wx.cell? ⟨P, 5, none⟩ = some (.slice (some ⟨U, 0, none⟩) N N)) (first | assumption | exact HP5.out _ (by repeat (first | exact But.refl _ _ | (with_reducible exact H12B.out.mono (by simp)) | refine But.drew ?_ | refine But.alloc ?_ _ | refine But.setCell ?_ (.inl (by simp)) _)) | go_keep) (first
    | (go_at_call 38; (with_reducible refine (hPL.out _ (by repeat (first | exact But.refl _ _ | refine But.drew ?_ | refine But.alloc ?_ _))).mono ?_); rintro e w12 ⟨rfl, hrow, hb12, hk1, hk2, hk3, hk4, hk5⟩; have HROW12 := Lib.hid hrow; have H12B : Hid (But [] w11 w12) := Lib.hid (((But.refl _ _).drew).trans hb12 (by simp)); have hk2a : ∀ o, (w12.alloc o).cell? ⟨b', 2, none⟩ = some (.pointer none) := (fun o => cell_but ((But.refl [] _).alloc o) hk2 (by simp)); have hk3a : ∀ o, (w12.alloc o).frozen? ⟨b', 2, none⟩ = false := (fun o => fz_of (((But.refl _ _).drew.trans (hb12.alloc o) (by simp) : But [] w11 _).heap HCELL.out (by simp)) 2); have hk4a : ∀ o, (w12.alloc o).cell? ⟨U, p, none⟩ = some (.bool (f p)) := (fun o => cell_but ((But.refl [] _).alloc o) hk4 (by simp)); have hk5a : ∀ o, (w12.alloc o).frozen? ⟨U, p, none⟩ = false := (fun o => by obtain ⟨C, hC, _⟩ := HC.out; exact fz_of (((But.refl _ _).drew.trans (hb12.alloc o) (by simp) : But [] w11 _).heap hC (by simp)) _); clear hrow hb12))
  generalize hw13 : ((w12.alloc (.cells #[.slice (some ⟨w11.heap.size, 0, none⟩) ks.length ks.length, .int .i64 (p : Nat)] 70)).setCell ⟨b', 2, none⟩ (.pointer (some ⟨w12.heap.size, 0, none⟩))).setCell ⟨U, p, none⟩ (.bool true) = w13
  have HW13 := Lib.hid hw13.symm
  have hz12 := H12B.out.size
  have hbl : b' < w11.heap.size := H11.out.tree.lt HB'.out
  have hUl : U < w11.heap.size := lt_of HC.out.choose_spec.1
  have hb13 : But [b', U] w11 w13 := by rw [HW13.out]; exact (((H12B.out.mono (by simp)).alloc _).setCell (.inl (by simp)) _).setCell (.inl (by simp)) _
  have k1 : w13.heap[w11.heap.size]? = some (.cells (u8s (plainK ks)).toArray 5) := by
    rw [HW13.out, heap_setN (by omega), heap_setN (by omega)]
    exact al_keep HROW12.out _
  have k2 : w13.heap[w12.heap.size]? = some (.cells #[.slice (some ⟨w11.heap.size, 0, none⟩) ks.length ks.length, .int .i64 (p : Nat)] 70) := by
    rw [HW13.out, heap_setN (by omega), heap_setN (by omega)]
    exact al_at _ _
  have k3 : w13.heap[b']? = some (.cells (nodeCells (nd' (kbits ks ++ [0])) (nd' (kbits ks ++ [1])) (some w12.heap.size)) 67) := by
    have hc : (w12.alloc (.cells #[.slice (some ⟨w11.heap.size, 0, none⟩) ks.length ks.length, .int .i64 (p : Nat)] 70)).heap[b']? = _ := al_keep (H12B.out.heap HCELL.out (by simp)) _
    rw [HW13.out, heap_setN hUb, heap_setC hc]
    rfl
  have k4 : UsedW w13 U N (upd f p true) := by
    obtain ⟨C, hC, hCs, hCc⟩ := HC.out
    have hc : ((w12.alloc (.cells #[.slice (some ⟨w11.heap.size, 0, none⟩) ks.length ks.length, .int .i64 (p : Nat)] 70)).setCell ⟨b', 2, none⟩ (.pointer (some ⟨w12.heap.size, 0, none⟩))).heap[U]? = _ := (heap_setN hbU).trans (al_keep (H12B.out.heap hC (by simp)) _)
    refine ⟨C.set! p (.bool true), ?_, by simp [hCs], fun i hi => ?_⟩
    · rw [HW13.out, heap_setC hc]
    · by_cases ei : i = p
      · subst ei
        rw [upd_at]
        simp [hCs, HPN.out]
      · rw [upd_ne _ _ ei, ← hCc i hi]
        simp [Array.getElem?_setIfInBounds_ne (Ne.symm ei)]
  have h13 := H11.out.put HB'.out HX.out HPN.out HFP.out HK.out rfl rfl (Nat.le_refl _) hz12 k1 k2 k3 k4 hb13
  have hz8 := HB8.out.size
  obtain ⟨e0, he0⟩ : ∃ e0, e0 = w12.heap.size := ⟨_, rfl⟩
  obtain ⟨q0, hq0⟩ : ∃ q0, q0 = w11.heap.size := ⟨_, rfl⟩
  have hbT : ∃ L, (∀ x ∈ L, (∃ ρ, nd ρ = some x) ∨ x = U) ∧ But L w w13 := by
    obtain ⟨L, hL, hb⟩ := HBW.out
    rcases HNEW.out _ _ HB'.out with ho | ho
    · refine ⟨L ++ [b', U], fun x hx => ?_, hb.join hb13⟩
      rcases List.mem_append.1 hx with hx | hx
      · exact .inl (hL x hx)
      · simp only [List.mem_cons, List.not_mem_nil, or_false] at hx
        rcases hx with rfl | rfl
        · exact .inl ⟨_, ho⟩
        · exact .inr rfl
    · refine ⟨L ++ [U], fun x hx => ?_, (hb.mono (fun x hx => List.mem_append_left _ hx)).trans hb13 (fun x hx => ?_)⟩
      · rcases List.mem_append.1 hx with hx | hx
        · exact .inl (hL x hx)
        · simp only [List.mem_singleton] at hx
          exact .inr hx
      · simp only [List.mem_cons, List.not_mem_nil, or_false] at hx
        rcases hx with rfl | rfl
        · exact .inr (by omega)
        · exact .inl (by simp)
  have HBT := Lib.hid hbT
  have n2 : w13.cell? ⟨b', 2, none⟩ = some (.pointer (some ⟨e0, 0, none⟩)) := by rw [he0]; exact cl_of k3 2
  rw [← he0, ← hq0] at h13
  rw [← he0]
  have HE0 : Hid (w.heap.size ≤ e0 ∧ w.heap.size ≤ q0) := Lib.hid (by
    obtain ⟨L, hL, hb⟩ := HBW.out
    have := hb.size
    omega)
  obtain ⟨pl', hpl'⟩ : ∃ pl', pl' = upd pl e0 p := ⟨_, rfl⟩
  obtain ⟨xs', hxs'⟩ : ∃ xs', xs' = plus xs (kbits ks) e0 := ⟨_, rfl⟩
  have hple : pl' e0 = p := by rw [hpl', upd_at]
  have hxe : xs' (kbits ks) = some e0 := by rw [hxs', plus_at]
  rw [← hpl', ← hxs'] at h13
  have HPL' := Lib.hid hpl'
  have HXS' := Lib.hid hxs'
  have H13 := Lib.hid h13
  have HXE := Lib.hid hxe
  have HPLE := Lib.hid hple
  obtain ⟨D, hD, hDs, hDc⟩ := id H13.out.room
  have hpN := HPN.out
  obtain ⟨r0, hr0⟩ : ∃ r0, rows[p]? = some r0 := ⟨_, List.getElem?_eq_getElem (by rw [H13.out.rows.1]; exact hpN)⟩
  obtain ⟨hrow, hrl, hrb⟩ := H13.out.rows.2 _ _ hr0
  have p6 : w13.cell? ⟨P, 6, none⟩ = some (.slice (some ⟨Rm, 0, none⟩) N N) := cl_of H13.out.head 6
  have e1 : w13.cell? ⟨e0, 1, none⟩ = some (.int .i64 (p : Nat)) := by rw [← HPLE.out]; exact cl_of (H13.out.ent _ _ HXE.out) 1
  have r1 : w13.cell? ⟨Rm, p, none⟩ = some (.slice (some ⟨g p, 0, none⟩) V V) := (cl_of hD _).trans (hDc _ hpN)
  have hlt0 : (0 : Int) ≤ ((p : Nat) : Int) := by omega
  have HROW : Hid (w13.drew.heap[g p]? = some (.cells (u8s r0).toArray 5 (0, 0))) := Lib.hid hrow
  have HSVT : Hid (Sees w13.drew (.slice va vs.length vc) (u8s vs)) := Lib.hid (by
    obtain ⟨L, hL, hb⟩ := HBT.out
    exact HSV.out.but hb.drew (fun k hk hm => HAV.out k hk (hL k hm)))
  have HRL : Hid (r0.length = V) := Lib.hid hrl
  clear hD hDs hDc hr0 hrow hrl hrb hpN h13 hpl' hxs' hxe hple k1 k2 k3 k4 hb13 hbT hw13 hz12 hbl hUl hz8 he0 hq0 hk1 hk2 hk3 hk4 hk5 hk2a hk3a hk4a hk5a q2 q2f u1 u1f p5 hbU hUb hbP hPb hUP hPU
  go_upto_region 19 with fail
  refine wp_region_tail9 14 (by kernel_rfl) (by kernel_rfl) ?_
  simp only [List.take_succ_cons, List.take_zero, List.drop_succ_cons, List.drop_zero]
  repeat still_step
  refine wpStill_nil ?_
  refine wpList_copy_but rfl (.tmp 107) (.tmp 108) 26 26 rfl 5 Try.underlying26 (by kernel_rfl) (some ⟨g p, 0, none⟩) va V V vs.length vc rfl rfl (g p) 0 (u8s r0) 5 HROW.out (u8s vs) (by rw [u8s_len, HVL.out]; exact (Nat.min_self V).symm) (fun h => ⟨rfl, sees_src HSVT.out h⟩) (by rw [u8s_len, u8s_len, HRL.out, HVL.out]; omega) (u8s_one _) ?_
  intro w5 hg5 hb5
  rw [splice_full _ _ (by rw [u8s_len, u8s_len, HRL.out, HVL.out])] at hg5
  have HB5 : Hid (But [g p] w13 w5) := Lib.hid (((But.refl _ _).drew).trans hb5 (fun x hx => .inl hx))
  have HG5 := Lib.hid hg5
  clear hg5 hb5
  go_wp2_with fail
  go_ret
  have h5 := H13.out.setRow HPN.out HVL.out HVB.out HG5.out HB5.out
  rw [HPL'.out, HXS'.out] at h5
  refine ⟨rfl, nd', e0, q0, h5, fun π c hc => (HNEW.out π c hc).imp id (fun h => Nat.le_trans HB8.out.size h), HE0.out.1, HE0.out.2, ?_⟩
  obtain ⟨L, hL, hb⟩ := HBT.out
  refine ⟨L ++ [g p], fun x hx => ?_, hb.join HB5.out⟩
  rcases List.mem_append.1 hx with hx | hx
  · exact .inl (hL x hx)
  · exact .inr (by simpa using hx)
end Go.Proofs.Ytpoinhfkgnkedaa.M
