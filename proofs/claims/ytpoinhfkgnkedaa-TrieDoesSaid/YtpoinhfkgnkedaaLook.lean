/-
  trie.Lookup of a live trie.
-/
import Derived.Test.YtpoinhfkgnkedaaTrie
namespace Go.Proofs.Ytpoinhfkgnkedaa.M
open Go.RowKit Go.Shelf
set_option linter.unusedVariables false
set_option linter.unusedSectionVars false
set_option linter.unusedSimpArgs false
attribute [local go_sem] Oper.semAt_some
/-- The entry of the last of some paths that has one. -/
def lastE (xs : Path → Option Nat) (ρs : List Path) : Option Nat := (ρs.filterMap xs).getLast?
theorem lastE_nil (xs : Path → Option Nat) : lastE xs [] = none := rfl
theorem lastE_snoc (xs : Path → Option Nat) (ρs : List Path) (ρ : Path) : lastE xs (ρs ++ [ρ]) = (xs ρ).or (lastE xs ρs) := by
  unfold lastE
  rw [List.filterMap_append]
  cases h : xs ρ with
  | none => simp [h]
  | some e => simp [h]
/-- What the entries hold: a place each. -/
def Ents (w : World) (xs : Path → Option Nat) (pl : Nat → Nat) : Prop := ∀ π e, xs π = some e → ∃ kv, w.heap[e]? = some (.cells #[kv, .int .i64 (pl e : Nat)] 70)
theorem Ents.but {w w' : World} {xs : Path → Option Nat} {pl : Nat → Nat} (h : Ents w xs pl) (hb : But [] w w') : Ents w' xs pl := fun π e he => by
  obtain ⟨kv, h⟩ := h π e he
  exact ⟨kv, hb.heap h (by simp)⟩
def placeE (pl : Nat → Nat) : Option Nat → Int | some e => (pl e : Nat) | none => 0
def errE : Option Nat → Int | some _ => 0 | none => 6
structure LkI (w : World) (q7 q8 : Nat) (xs : Path → Option Nat) (pl : Nat → Nat) (ρs : List Path) (W : World) : Prop where
  b7 : W.heap[q7]? = some (.cells #[.int .i64 (placeE pl (lastE xs ρs))] 3)
  b8 : W.heap[q8]? = some (.cells #[.int .i64 (errE (lastE xs ρs))] 30)
  but : But [] w W
theorem LkI.abides (w : World) (q7 q8 B : Nat) (hB : w.heap.size ≤ B) (xs : Path → Option Nat) (pl : Nat → Nat) : Abides B (LkI w q7 q8 xs pl) := Abides.of_but fun pre V W L h hb hL =>
  ⟨heap_far h.b7 hb hL, heap_far h.b8 hb hL, h.but.trans hb (fun x hx => .inr (by have := (hL x hx).1; omega))⟩
theorem LkI.bides (w : World) (q7 q8 qn : Nat) (hq : w.heap.size ≤ qn) (h7 : qn ≠ q7) (h8 : qn ≠ q8) (xs : Path → Option Nat) (pl : Nat → Nat) : Bides (fun b => b = qn) (LkI w q7 q8 xs pl) := Bides.of_but fun pre V W b h hb ht => by
  subst ht
  exact ⟨hb.heap h.b7 (by simp; omega), hb.heap h.b8 (by simp; omega), h.but.trans hb (fun x hx => .inr (by simp at hx; omega))⟩
set_option maxRecDepth 100000 in
set_option maxHeartbeats 4000000 in
theorem lookup_w {w : World} {P root U Rm : Nat} {k : Int} {K V N : Nat} {nd xs : Path → Option Nat} {pl : Nat → Nat} (h : HeadW w P root U Rm k K V N) (hT : Tree w nd xs) (hr : nd [] = some root) (hE : Ents w xs pl) (ad : Addr) (cp : Nat) (ks : List Int) (hn : ks.length = K) (hk : KeyOk ks) (hs : Sees w (.slice (some ad) ks.length cp) (u8s ks)) :
    CallsIn Fence.wide 8 Try.prog 14 #[.pointer (some ⟨P, 0, none⟩), .slice (some ad) ks.length cp] w fun e w' => ∃ ρs, DownS nd (kbits ks) ρs ∧ e = .returned (.tuple #[.int .i64 (placeE pl (lastE xs ρs)), .int .i64 (errE (lastE xs ρs))]) ∧ But [] w w' := by
  subst hn
  have h1 : 1 ≤ 8 := by decide
  have hch := check_w h ad cp ks rfl ⟨hk.four, hk.long⟩ hs hk.bytes
  rw [if_neg (by have := hk.fits; omega)] at hch
  have d4 : w.cell? ⟨P, 4, none⟩ = some (.pointer (some ⟨root, 0, none⟩)) := cl_of h 4
  have HCH := Lib.hid hch
  have HD4 := Lib.hid d4
  have HH := Lib.hid h
  have HT := Lib.hid hT
  have HR := Lib.hid hr
  have HE := Lib.hid hE
  have HK := Lib.hid hk
  have HS := Lib.hid hs
  clear hch h hT hr hE hk hs d4
  refine callsIn_of_wp_marks Try.func14 rfl trivial ?_ rfl
  simp only [Try.ntmps14, List.size_toArray, List.length_cons, List.length_nil, Nat.reduceAdd, Nat.reduceSub, Array.replicate_succ, Array.replicate_zero, List.push_toArray, List.append_toArray, List.nil_append, List.cons_append]
  refine wpIn_wide.2 ?_
  go_wp2_with fail
  refine HCH.out.mono ?_
  rintro e w1 ⟨rfl, hb1⟩
  have HB1 := Lib.hid hb1
  clear hb1
  go_upto_region 5 with fail
  obtain ⟨w2, hw2⟩ : ∃ w2, w2 = (w1.alloc (.cells #[.int .i64 0] 3)).alloc (.cells #[.int .i64 6] 30) := ⟨_, rfl⟩
  have hb2 : But [] w w2 := by rw [hw2]; exact (HB1.out.alloc _).alloc _
  have d4 : w2.cell? ⟨P, 4, none⟩ = some (.pointer (some ⟨root, 0, none⟩)) := cell_but hb2 HD4.out (by simp)
  rw [← hw2]
  have HS0 : Hid (∀ wx, But [] w2 wx → wx.cell? ⟨P, 4, none⟩ = some (.pointer (some ⟨root, 0, none⟩))) := Lib.hid fun wx hx => cell_but (hb2.trans hx (by simp)) HD4.out (by simp)
  have HB2 := Lib.hid hb2
  have HW2 := Lib.hid hw2
  clear hb2 hw2
  go_region_held3 (fun wx => wx.cell? ⟨P, 4, none⟩ = some (.pointer (some ⟨root, 0, none⟩))) (exact HS0.out _ (by repeat (first | exact But.refl _ _ | refine But.drew ?_ | refine But.alloc ?_ _))) (first
    | (go_at_call 36; (with_reducible refine (bits_c _ _ _ _).mono ?_); rintro e w7 ⟨rfl, rfl⟩)
    | (go_at_call 47; (with_reducible refine (way_c _ _ _).mono ?_); rintro e w8 ⟨rfl, rfl⟩))
  obtain ⟨w3, hw3⟩ : ∃ w3, w3 = (((w2.alloc (.cells #[.slice (some ad) ks.length cp] 26)).alloc (.cells #[.pointer (some ⟨root, 0, none⟩)] 57)).alloc (.cells #[.func (.func 54) #[] #[.pointer (some ⟨w2.heap.size, 0, none⟩)]] 72)).drew := ⟨_, rfl⟩
  rw [← hw3]
  have hz2 : w2.heap.size = w1.heap.size + 2 := by rw [HW2.out, size_alloc, size_alloc]
  have hz1 := HB1.out.size
  have hb3 : But [] w2 w3 := by rw [hw3]; exact ((((But.refl [] w2).alloc _).alloc _).alloc _).drew
  have hbw : But [] w w3 := HB2.out.trans hb3 (by simp)
  have hz3 : w3.heap.size = w2.heap.size + 3 := by rw [hw3]; show Array.size _ = _; simp [World.drew]
  have gP : w3.heap[w2.heap.size]? = some (.cells #[.slice (some ad) ks.length cp] 26) := by rw [hw3]; exact al_keep (al_keep (al_at _ _) _) _
  have gn : w3.heap[w2.heap.size + 1]? = some (.cells #[.pointer (some ⟨root, 0, none⟩)] 57) := by rw [hw3]; exact al_keep (al_eq _ _ _ (by rw [size_alloc])) _
  have gb : w3.heap[w2.heap.size + 1 + 1]? = some (.cells #[.func (.func 54) #[] #[.pointer (some ⟨w2.heap.size, 0, none⟩)]] 72) := by rw [hw3]; exact al_eq _ _ _ (by rw [size_alloc, size_alloc])
  have g7 : w3.heap[w1.heap.size]? = some (.cells #[.int .i64 0] 3) := hb3.heap (by rw [HW2.out]; exact al_keep (al_at _ _) _) (by simp)
  have g8 : w3.heap[w1.heap.size + 1]? = some (.cells #[.int .i64 6] 30) := hb3.heap (by rw [HW2.out]; exact al_eq _ _ _ (by rw [size_alloc])) (by simp)
  have hadl := HS.out.low (by rw [u8s_len]; have := HK.out.four; omega) ad.block rfl
  have hndl : ∀ π b, nd π = some b → b < w.heap.size := fun π b hp => HT.out.lt hp
  have HSQ := Lib.hid (way_seq 7 (by omega) (w2.heap.size + 1) (w2.heap.size + 1 + 1) w2.heap.size (fun b => b ≠ w1.heap.size ∧ b ≠ w1.heap.size + 1 ∧ b ≠ w3.heap.size + 1) ad cp ks nd xs w3 (HT.out.but hbw (by simp)) root HR.out gn gb gP (HS.out.but hbw (by simp)) HK.out
    ⟨by omega, by omega, by omega, by omega, fun π b hp => by have := hndl π b hp; omega, fun b hb => by omega⟩ ⟨by omega, by omega, fun π hp => by have := hndl π _ hp; omega⟩)
  have HI0 : Hid (LkI w w1.heap.size (w1.heap.size + 1) xs pl [] w3) := Lib.hid ⟨g7, g8, hbw⟩
  have HW3 := Lib.hid hw3
  clear hw3 hb3 hbw gP gn gb g7 g8
  go_wp2_with fail
  refine (wpIn_wide (n := 8)).1 ?_
  refine wpIn_rangeFunc_turn rfl h1 (gf := 62) (lb := #[.pointer (some ⟨w2.heap.size + 1, 0, none⟩), .pointer (some ⟨w2.heap.size + 1 + 1, 0, none⟩)]) rfl trivial (enters_of Try.func62 (by kernel_rfl) rfl) HSQ.out (by rintro b rfl; omega)
    (fun h k => h.trans k) (fun hz hb => KeepIn.of_but hb (by simp)) (fun V l o o' hl hV ho => KeepIn.of_but (but_putObj o' hV) (by simp only [List.mem_singleton]; rintro x rfl h; exact h.2.2 hl)) ⟨fun _ _ _ h _ => h, fun _ _ _ _ _ h _ _ _ => h⟩ (But.refl _ _) (fun _ => rfl)
    (LkI w w1.heap.size (w1.heap.size + 1) xs pl) (fun _ _ _ => False) (LkI.abides _ _ _ _ (by omega) _ _) (fun _ => Abides.none _) (LkI.bides _ _ _ _ (by omega) (by omega) (by omega) _ _) (fun _ => Bides.none _) HI0.out
    (fun x a' _ => a' = { tmps := #[.pointer (some ⟨P, 0, none⟩), .slice (some ad) ks.length cp, undef, undef, .int .i64 0, .int .i64 0, .int .i64 0, .pointer (some ⟨w1.heap.size, 0, none⟩), .pointer (some ⟨w1.heap.size + 1, 0, none⟩), pv (nd x), .pointer (some ⟨P, 0, none⟩), .slice (some ad) ks.length cp, .int .i64 0, .int .i64 0, .bool false, undef, .pointer (some ⟨P, 0, none⟩), .pointer (some ⟨P, 0, none⟩), .pointer (some ⟨P, 4, none⟩), .pointer (some ⟨root, 0, none⟩), .slice (some ad) ks.length cp, .func (.func 54) #[] #[.pointer (some ⟨w2.heap.size, 0, none⟩)], .func (.func 62) #[] #[.pointer (some ⟨w2.heap.size + 1, 0, none⟩), .pointer (some ⟨w2.heap.size + 1 + 1, 0, none⟩)], pv (nd x), undef, undef, undef, undef, undef, undef, undef, undef, undef, undef, undef, undef, undef, undef], defers := [] })
    (fun a' => ⟨fun _ _ _ h _ => h, fun _ _ _ _ _ h _ _ _ => h⟩) ?assign ?body ?done ?stop ?throw
  case assign =>
    rintro l pre x W K _ ⟨b, hb⟩ _ hK
    simp only [encN, hb, pv, Option.map_some]
    clear hz2 hz3 hz1
    gi_wp2
    exact hK _ _ (But.refl _ _) (by rw [hb]; rfl)
  case body =>
    rintro l ρs ρ a' W hx0 hI ⟨b, hb⟩ _ hlt
    subst hx0
    have hnode := hI.but.heap (HT.out.cell ρ b hb) (by simp)
    have n2 : W.cell? ⟨b, 2, none⟩ = some (pv (xs ρ)) := cl_of hnode 2
    have c7 : W.frozen? ⟨w1.heap.size, 0, none⟩ = false := fz_of hI.b7 0
    have c8 : W.frozen? ⟨w1.heap.size + 1, 0, none⟩ = false := fz_of hI.b8 0
    have d7 : W.cell? ⟨w1.heap.size, 0, none⟩ = some (.int .i64 (placeE pl (lastE xs ρs))) := cl_of hI.b7 0
    have d8 : W.cell? ⟨w1.heap.size + 1, 0, none⟩ = some (.int .i64 (errE (lastE xs ρs))) := cl_of hI.b8 0
    rw [hb]
    unfold pv
    simp only [Option.map_some]
    cases hx : xs ρ with
    | none =>
      have HRES : Hid (LkI w w1.heap.size (w1.heap.size + 1) xs pl (ρs ++ [ρ]) W) := Lib.hid (by
        have e : lastE xs (ρs ++ [ρ]) = lastE xs ρs := by rw [lastE_snoc, hx]; rfl
        exact ⟨by rw [e]; exact hI.b7, by rw [e]; exact hI.b8, hI.but⟩)
      rw [hx] at n2
      unfold pv at n2
      simp only [Option.map_none] at n2
      clear hI hnode hx hb
      gi_wp2
      exact ⟨KeepsOthers.refl _, KeepIn.refl _ _, HRES.out⟩
    | some e =>
      obtain ⟨kv, he⟩ := HE.out ρ e hx
      have he2 := hI.but.heap he (by simp)
      have p1 : W.cell? ⟨e, 1, none⟩ = some (.int .i64 (pl e : Nat)) := cl_of he2 1
      have hs1 : But [w1.heap.size, w1.heap.size + 1] W ((W.setCell ⟨w1.heap.size, 0, none⟩ (.int .i64 (pl e : Nat))).setCell ⟨w1.heap.size + 1, 0, none⟩ (.int .i64 0)) := ((But.refl _ _).setCell (.inl (by simp)) _).setCell (.inl (by simp)) _
      have HRES : Hid (KeepsOthers W ((W.setCell ⟨w1.heap.size, 0, none⟩ (.int .i64 (pl e : Nat))).setCell ⟨w1.heap.size + 1, 0, none⟩ (.int .i64 0)) ∧ KeepIn (fun b => b ≠ w1.heap.size ∧ b ≠ w1.heap.size + 1 ∧ b ≠ w3.heap.size + 1) W ((W.setCell ⟨w1.heap.size, 0, none⟩ (.int .i64 (pl e : Nat))).setCell ⟨w1.heap.size + 1, 0, none⟩ (.int .i64 0)) ∧ LkI w w1.heap.size (w1.heap.size + 1) xs pl (ρs ++ [ρ]) ((W.setCell ⟨w1.heap.size, 0, none⟩ (.int .i64 (pl e : Nat))).setCell ⟨w1.heap.size + 1, 0, none⟩ (.int .i64 0))) := Lib.hid (by
        have e' : lastE xs (ρs ++ [ρ]) = some e := by rw [lastE_snoc, hx]; rfl
        refine ⟨(KeepsOthers.setCell _ _ _).trans (KeepsOthers.setCell _ _ _), KeepIn.of_but hs1 (fun y hy h => by simp at hy; rcases hy with rfl | rfl; exact h.1 rfl; exact h.2.1 rfl), ?_, ?_, hI.but.trans hs1 (fun y hy => .inr (by simp at hy; omega))⟩
        · rw [e']
          have h := hI.b7
          simp [World.setCell, Array.getElem?_modify, h, placeE]
        · rw [e']
          have h := hI.b8
          simp [World.setCell, Array.getElem?_modify, h, errE])
      rw [hx] at n2
      unfold pv at n2
      simp only [Option.map_some] at n2
      clear hI hnode hx hb he he2 hs1
      gi_wp2
      exact HRES.out
  case done =>
    rintro D ρs W rfl hS hI hK
    have d7 : W.cell? ⟨w1.heap.size, 0, none⟩ = some (.int .i64 (placeE pl (lastE xs ρs))) := cl_of hI.b7 0
    have d8 : W.cell? ⟨w1.heap.size + 1, 0, none⟩ = some (.int .i64 (errE (lastE xs ρs))) := cl_of hI.b8 0
    have HB := Lib.hid hI.but
    have HSS := Lib.hid hS
    have HKK := Lib.hid hK
    clear hI hS hK
    go_wp2_with fail
    go_quiet (fail)
    go_wp2_with fail
    have hb9 : But [w3.heap.size] (W.drewN nq) ((W.drewN nq).putObj w3.heap.size (.deferred none)) := but_putObj _ HKK.out
    refine ⟨by simp, .inl ⟨_, _, rfl, run_takeDeferred HKK.out, ?_⟩⟩
    refine ⟨.tuple #[.int .i64 (placeE pl (lastE xs ρs)), .int .i64 (errE (lastE xs ρs))], by simp [results, Try.results14, go_sem], ρs, HSS.out, rfl, ?_⟩
    exact (show But [] w (W.drewN nq) from ⟨HB.out.os, HB.out.tape, HB.out.output, HB.out.size, HB.out.block⟩).trans hb9 (fun x hx => .inr (by simp at hx; omega))
  case stop =>
    rintro D c pre W _ _ h _
    exact h.elim
  case throw =>
    rintro D pre chain W _ h _ _
    exact h.elim
end Go.Proofs.Ytpoinhfkgnkedaa.M
