/-
  trie.Keys of a live trie: the walk.
-/
import Derived.Test.YtpoinhfkgnkedaaTrSort
import Derived.Test.YtpoinhfkgnkedaaTrPl
namespace Go.Proofs.Ytpoinhfkgnkedaa.M
open Go.RowKit Go.Shelf
set_option linter.unusedVariables false
set_option linter.unusedSectionVars false
set_option linter.unusedSimpArgs false
attribute [local go_sem] Oper.semAt_some
attribute [-go_sem] Builtin.append_
/-- What an entry's key is, as it lies. -/
def KeyRows (w : World) (xs : Path → Option Nat) (kb : Nat → Nat) (K : Nat) (R : Nat → List Int) : Prop := ∀ π e, xs π = some e → (∃ ks, KeyOk ks ∧ ks.length = K ∧ kbits ks = π ∧ R e = plainK ks) ∧ w.heap[kb e]? = some (.cells (u8s (R e)).toArray 5) ∧ (R e).length = K
theorem keyRows_ex {w : World} {P root U Rm K V N : Nat} {nd xs : Path → Option Nat} {pl kb : Nat → Nat} {f : Nat → Bool} {g : Nat → Nat} {rows : List (List Int)} (h : TrieS w P root U Rm K V N nd xs pl kb f g rows) : ∃ R, KeyRows w xs kb K R := by
  have hex : ∀ e, ∃ bs : List Int, ∀ π, xs π = some e → (∃ ks, KeyOk ks ∧ ks.length = K ∧ kbits ks = π ∧ bs = plainK ks) ∧ w.heap[kb e]? = some (.cells (u8s bs).toArray 5) ∧ bs.length = K := fun e => by
    by_cases he : ∃ π, xs π = some e
    · obtain ⟨π, hp⟩ := he
      obtain ⟨ks, h1, h2, h3, h4⟩ := h.key π e hp
      refine ⟨plainK ks, fun ρ hr => ?_⟩
      obtain rfl := h.pinj _ _ _ _ hp hr rfl
      exact ⟨⟨ks, h1, h2, h3, rfl⟩, h4, by rw [plainK_len h1.four, h2]⟩
    · exact ⟨[], fun π hp => absurd ⟨π, hp⟩ he⟩
  obtain ⟨R, hR⟩ := Classical.axiomOfChoice hex
  exact ⟨R, fun π e he => hR e π he⟩
/-- The loop's variable: an entry, boxed. -/
def EntB (kb pl : Nat → Nat) (K x Bx : Nat) (W : World) : Prop := W.heap[Bx]? = some (.cells #[.slice (some ⟨kb x, 0, none⟩) K K, .int .i64 (pl x : Nat)] 70)
theorem EntB.far {kb pl : Nat → Nat} {K x Bx : Nat} {V W : World} {L : List Nat} {B : Nat} (h : EntB kb pl K x Bx V) (hb : But L V W) (hL : ∀ x ∈ L, B ≤ x ∧ ∃ o, V.heap[x]? = some o ∧ o.isCells = false) : EntB kb pl K x Bx W := by
  unfold EntB at *
  exact heap_far h hb hL
/-- What Keys hands back: rows of its own, sorted. -/
def KeysOut (w w' : World) (a : Option Addr) (c : Nat) (L : List (List Int)) : Prop := ∃ ps : List (Value × List Int), (ps.map (·.2)).Perm L ∧ OwnQ w' 26 (.slice a ps.length c) (ps.map (·.1)) ∧ (∀ p ∈ ps, NewRow w w' p.1 p.2) ∧ ps.Pairwise (fun x y => ∀ b, x.1.ownBlock = some b → y.1.ownBlock ≠ some b) ∧ ps.Pairwise (fun x y => 0 ≤ cfK y.2 x.2) ∧ (∀ b, (Value.slice a ps.length c).ownBlock = some b → w.heap.size ≤ b) ∧ But [] w w'
theorem KeysOut.past {w V W : World} {a : Option Addr} {c : Nat} {L : List (List Int)} {D : Nat} {d : Option (List Deferred)} (h : KeysOut w V a c L) (hb : But [D] V W) (hD : V.heap[D]? = some (.deferred d)) (hl : w.heap.size ≤ D) : KeysOut w W a c L := by
  obtain ⟨ps, h1, h2, h3, h4, h5, h6, h7⟩ := h
  have hno : ∀ y ∈ [D], ∀ C T f, V.heap[y]? ≠ some (.cells C T f) := fun y hy C T f e => by
    simp only [List.mem_singleton] at hy
    subst hy
    rw [hD] at e
    cases e
  exact ⟨ps, h1, h2.but hb (fun k hk hm => by obtain ⟨cur, hg⟩ := h2.tag k hk; exact hno k hm _ _ _ hg), fun p hp => (h3 p hp).but hb (fun y hy C f => hno y hy _ _ _), h4, h5, h6, h7.trans hb (fun x hx => .inr (by simp at hx; omega))⟩
set_option maxRecDepth 100000 in
set_option maxHeartbeats 8000000 in
theorem keys_w {w : World} {P root U Rm K V N : Nat} {nd xs : Path → Option Nat} {pl kb : Nat → Nat} {f : Nat → Bool} {g : Nat → Nat} {rows : List (List Int)} (h : TrieS w P root U Rm K V N nd xs pl kb f g rows) (R : Nat → List Int) (hR : KeyRows w xs kb K R) (F : Nat) (hF : F = w.heap.size + 1) (hcnt : (dfs nd xs F []).length ≤ 1024) :
    CallsIn Fence.wide 8 Try.prog 13 #[.pointer (some ⟨P, 0, none⟩)] w fun e w' => ∃ a c, e = .returned (.slice a (dfs nd xs F []).length c) ∧ KeysOut w w' a c ((dfs nd xs F []).map R) := by
  obtain ⟨i0, hi, hz0, hz1, hz2⟩ := info_parts (show (Try.prog.info? 26).map (fun i => (i.zero, i.size, i.bytes)) = some (some (.slice none 0 0), 1, 24) by kernel_rfl)
  have HH := Lib.hid h
  have HR := Lib.hid hR
  have d4 : w.cell? ⟨P, 4, none⟩ = some (.pointer (some ⟨root, 0, none⟩)) := cl_of h.head 4
  have d4a : ∀ o, (w.alloc o).cell? ⟨P, 4, none⟩ = some (.pointer (some ⟨root, 0, none⟩)) := fun o => cell_but ((But.refl [] w).alloc o) d4 (by simp)
  have hb1 : But [] w (w.alloc (.cells #[.slice none 0 0] 39)) := (But.refl [] w).alloc _
  have HB1 := Lib.hid hb1
  have HINF := Lib.hid (show Try.prog.info? 26 = some i0 ∧ i0.zero = some (.slice none 0 0) ∧ i0.size = 1 ∧ i0.bytes = 24 from ⟨hi, hz0, hz1, hz2⟩)
  have HCNT := Lib.hid hcnt
  have HF := Lib.hid hF
  clear h hb1 hi hz0 hz1 hz2 hcnt hR hF
  refine callsIn_of_wp_marks Try.func13 rfl trivial ?_ rfl
  simp only [Try.ntmps13, List.size_toArray, List.length_cons, List.length_nil, Nat.reduceAdd, Nat.reduceSub, Array.replicate_succ, Array.replicate_zero, List.push_toArray, List.append_toArray, List.nil_append, List.cons_append]
  gi_wp2
  refine ⟨trivial, ?_⟩
  refine (callsIn_wide.2 (alls_c (some ⟨root, 0, none⟩) _)).mono ?_
  have hsz : (w.alloc (.cells #[.slice none 0 0] 39)).heap.size = w.heap.size + 1 := size_alloc _ _
  rintro e w4 ⟨rfl, hw4⟩
  rw [hsz]
  have hb4 : But [] (w.alloc (.cells #[.slice none 0 0] 39)) w4 := by rw [hw4]; exact (But.refl _ _).alloc _
  have HBX : Hid (w4.heap[w.heap.size]? = some (.cells #[.slice none 0 0] 39)) := Lib.hid (hb4.heap (al_at _ _) (by simp))
  have HIT : Hid (w4.heap[w.heap.size + 1]? = some (.cells #[.pointer (some ⟨root, 0, none⟩)] 57)) := Lib.hid (by rw [hw4, ← hsz]; exact al_at _ _)
  have hz : w4.heap.size = w.heap.size + 2 := by rw [hw4, size_alloc, hsz]
  have HZ := Lib.hid hz
  have HB4 : Hid (But [] w w4) := Lib.hid (HB1.out.trans hb4 (by simp))
  have HH4 := Lib.hid (HH.out.new HB4.out)
  have HSEQ := Lib.hid (alls_seq 7 (w.heap.size + 1) (fun b => b < w.heap.size) nd xs kb pl K F w4 (by rw [HH.out.rt]; exact HIT.out) HH4.out.tree HH4.out.ent (fun σ b hb => by rw [HF.out]; exact HH.out.tree.short hb) (fun π b hb => HH.out.tree.lt hb) (fun π e he => (HH.out.elt he).1))
  clear hsz hw4 hb4 d4 d4a hz
  gi_wp2
  refine wpIn_rangeFunc_but rfl (by omega) (gf := 55) (lb := #[.pointer (some ⟨w.heap.size + 1, 0, none⟩)]) rfl trivial (enters_of Try.func55 (by kernel_rfl) rfl) HSEQ.out
    (fun h k => h.trans k) (fun hz hb => KeepIn.of_but hb (by simp)) (fun V l o o' hl hV ho => KeepIn.of_but (but_putObj o' hV) (by have := HZ.out; simp only [List.mem_singleton]; rintro x rfl; omega)) (anyE_abides xs _) (But.refl _ _) (fun _ => rfl)
    (KtI w R) (fun c pre W => False) (by rw [HZ.out]; exact KtI.abides w R) (fun c => Abides.none _) ⟨none, 0, [], HBX.out, .inl ⟨rfl, rfl⟩, (fun b hb => by cases hb), rfl, (fun i v x hv => by simp at hv), (fun i j u v b hu => by simp at hu), HB4.out⟩
    (fun x a' W => ∃ (Bx : Nat), a' = { tmps := #[.pointer (some ⟨P, 0, none⟩), undef, .slice none 0 0, .pointer (some ⟨w.heap.size, 0, none⟩), .pointer (some ⟨Bx, 0, none⟩), .pointer (some ⟨P, 0, none⟩), .bool false, .bool false, .pointer (some ⟨P, 0, none⟩), .pointer (some ⟨P, 0, none⟩), .pointer (some ⟨P, 4, none⟩), .pointer (some ⟨root, 0, none⟩), .bool false, .bool false, .pointer (some ⟨P, 0, none⟩), .pointer (some ⟨P, 0, none⟩), .pointer (some ⟨P, 4, none⟩), .pointer (some ⟨root, 0, none⟩), .func (.func 55) #[] #[.pointer (some ⟨w.heap.size + 1, 0, none⟩)], .agg #[.slice (some ⟨kb x, 0, none⟩) K K, .int .i64 (pl x : Nat)], undef, undef, undef, undef, undef, undef, undef, undef, undef], defers := [] } ∧ EntB kb pl K x Bx W) (fun a' => Abides.of_but fun x V W L h hb hL => by
      obtain ⟨Bx, h1, h2⟩ := h
      exact ⟨Bx, h1, h2.far hb hL⟩) ?assign ?body ?done ?stop ?throw
  case assign =>
    intro l pre x W Kq _ _ _ hK
    simp only [encE]
    gi_wp2
    exact hK _ _ ((But.refl [] _).alloc _) ⟨W.heap.size, rfl, al_at W _⟩
  case body =>
    rintro l pre x a' W ⟨Bx, rfl, hB⟩ ⟨a, c, vals, hk⟩ ⟨π, hx⟩ hz hlen
    have c1 : W.cell? ⟨w.heap.size, 0, none⟩ = some (.slice a vals.length c) := cl_of hk.box 0
    have c2 : W.cell? ⟨Bx, 0, none⟩ = some (.slice (some ⟨kb x, 0, none⟩) K K) := cl_of hB 0
    obtain ⟨-, hrow, hrl⟩ := HR.out π x hx
    have hzz : w.heap.size + 2 ≤ W.heap.size := by have := HZ.out; omega
    have hn : vals.length ≤ 1024 := by
      have := hk.len
      have := HCNT.out
      omega
    have HCL : Hid (∀ wx, But [] W wx → Calls Try.prog 40 #[.slice (some ⟨kb x, 0, none⟩) K K] wx fun e w' => ∃ v, e = .returned v ∧ NewRow wx w' v (R x) ∧ But [] wx w') := Lib.hid fun wx hb => by
      have hbw := hk.but.trans hb (by simp)
      have hh := hbw.heap hrow (by simp)
      refine clone_c (kb x) K K (R x) wx (.inr ⟨⟨kb x, 0, none⟩, K, by rw [u8s_len, hrl], by rw [u8s_len, hrl]; exact Nat.le_refl _, fun j u hj => ?_⟩) hrl (by have := HH.out.num; omega)
      rw [add_at, Nat.zero_add, cl_of hh]
      simpa using hj
    have h0 : 0 < (R x).length := by have := HH.out.num; omega
    have HAPP : Hid (∀ w5 va vc, But [] W.drew w5 → NewRow W.drew w5 (.slice va (R x).length vc) (R x) → ∃ a7 c7 w7, (Builtin.append_ #[39, 39] 39 #[.slice a vals.length c, .slice (some ⟨w5.heap.size, 0, none⟩) 1 1]).run Try.prog (w5.alloc (.cells #[.slice va (R x).length vc] 26)) = .ok (.slice a7 (vals.length + 1) c7) w7 ∧ w7.frozen? ⟨w.heap.size, 0, none⟩ = false ∧ (∃ u, w7.cell? ⟨w.heap.size, 0, none⟩ = some u) ∧
        (KeepsOthers W (w7.setCell ⟨w.heap.size, 0, none⟩ (.slice a7 (vals.length + 1) c7)) ∧ KeepIn (fun b => b < w.heap.size) W (w7.setCell ⟨w.heap.size, 0, none⟩ (.slice a7 (vals.length + 1) c7)) ∧ KtI w R (pre ++ [x]) (w7.setCell ⟨w.heap.size, 0, none⟩ (.slice a7 (vals.length + 1) c7)))) := Lib.hid fun w5 va vc h5 hnr => by
      have h5W : But [] W w5 := (But.refl [] W).drew.trans h5 (by simp)
      have hbz : But [] w5 (w5.alloc (.cells #[.slice va (R x).length vc] 26)) := (But.refl [] w5).alloc _
      have hsrc : Src Try.prog i0.size 39 (.slice (some ⟨w5.heap.size, 0, none⟩) 1 1) [Value.slice va (R x).length vc].length [Value.slice va (R x).length vc] (w5.alloc (.cells #[.slice va (R x).length vc] 26)) := by
        rw [HINF.out.2.2.1]
        refine Src.ofSlice _ Try.underlying39 _ 1 1 _ (by simp) (fun j u hj => ?_) (by intro u hu; simp at hu; subst hu; rfl)
        cases j with
        | zero =>
          simp at hj
          subst hj
          rw [add_at]
          exact cl_of (al_at _ _) 0
        | succ j => simp at hj
      obtain ⟨v', w7, hrun, hap⟩ := run_append_row (P := Try.prog) (w := w5.alloc (.cells #[.slice va (R x).length vc] 26)) 39 39 26 i0 (.slice none 0 0) 24 Try.underlying39 HINF.out.1 HINF.out.2.1 HINF.out.2.2.1 HINF.out.2.2.2 rfl (.slice a vals.length c) vals ((hk.own.but h5W (by simp)).but hbz (by simp)) _ _ hsrc (by have h0 : ∀ x : Value, [x].length = 1 := fun _ => rfl; unfold maxLen; rw [h0]; omega) (by have h0 : ∀ x : Value, [x].length = 1 := fun _ => rfl; rw [h0]; omega)
      obtain ⟨a7, c7, rfl, gf7, gc7, h7, hall⟩ := hk.step (v := .slice va (R x).length vc) h5W (hnr.old (show W.heap.size ≤ W.drew.heap.size from Nat.le_refl _)) hbz h0 hap hzz
      refine ⟨a7, c7, w7, hrun, gf7, gc7, keepsOthers_of_but hall (fun y hy => ?_), KeepIn.of_but hall (fun y hy => ?_), _, _, _, h7⟩
      · rcases List.mem_cons.1 hy with rfl | hy
        · exact ⟨_, _, _, hk.box⟩
        · obtain ⟨cur, hg⟩ := hk.own.tag y (by simpa using hy)
          exact ⟨_, _, _, hg⟩
      · rcases List.mem_cons.1 hy with rfl | hy
        · omega
        · have := hk.low y (by simpa using hy); omega
    have hlW := lt_of hk.box
    clear hk hx hlen hrow hrl hzz hn h0 hz hB
    have mixed : Try.prog.follows .mixedOrders = true := by kernel_rfl
    gi_wp2
    gi_region_with_o ((refine ⟨trivial, ?_⟩; gi_at_call 40; refine (CallsIn.inRound l (callsIn_wide.2 (HCL.out _ (But.refl _ _).drew))).mono ?_; rintro e w5 ⟨v5, rfl, hn5, hb5⟩; obtain ⟨va, vc, rfl, -⟩ := id hn5; obtain ⟨a7, c7, w7, hrun, gf7, ⟨u7, gc7⟩, h7⟩ := HAPP.out w5 va vc hb5 hn5; have H7 := Lib.hid h7; have d1 : w5.cell? ⟨w.heap.size, 0, none⟩ = some (.slice a vals.length c) := cell_but hb5 c1 (by simp); have d1a : ∀ o, (w5.alloc o).cell? ⟨w.heap.size, 0, none⟩ = some (.slice a vals.length c) := (fun o => cell_but ((But.refl [] _).alloc o) d1 (by simp)); clear hn5 hb5 h7; (try dsimp only)))
    all_goals
      gi_wp2
      exact H7.out
  case done =>
    rintro D xs' W hD rfl ⟨a, c, vals, hk⟩ hK
    have hDD : D = w.heap.size + 2 := by rw [hD, HZ.out]
    have hlen := hk.len
    have c0 : W.cell? ⟨w.heap.size, 0, none⟩ = some (.slice a vals.length c) := cl_of hk.box 0
    obtain ⟨L, hL⟩ : ∃ L, L = (dfs nd xs F []).map R := ⟨_, rfl⟩
    have hsort : Calls Try.prog 41 #[.slice a vals.length c, .func (.func 42) #[] #[]] W fun e w' => e = .returned (.tuple #[]) ∧ w'.cell? ⟨w.heap.size, 0, none⟩ = some (.slice a vals.length c) ∧ w'.heap[D]? = some (.deferred (some [])) ∧ KeysOut w w' a c L := by
      have hK' := hK
      by_cases hv0 : vals.length = 0
      · have hvn : vals = [] := List.eq_nil_of_length_eq_zero hv0
        subst hvn
        have hL0 : L = [] := by rw [hL, List.map_eq_nil_iff]; exact List.eq_nil_of_length_eq_zero hlen.symm
        have hS := AnyF.slices_SortFunc_none (P := Try.prog) (ρ := sortL_ren) { sortL with } a c (.func (.func 42) #[] #[]) W
        refine Calls.mono hS ?_
        rintro e w' ⟨rfl, rfl⟩
        exact ⟨rfl, c0, hK, [], by rw [hL0]; exact List.Perm.refl _, hk.own, by simp, by simp, by simp, fun b hb => by have := hk.low b hb; omega, hk.but⟩
      · obtain ⟨g0, o0, rfl⟩ := hk.own.addr (by omega)
        have hg0 := hk.low g0 rfl
        obtain ⟨cur0, hcur0⟩ := hk.own.tag g0 rfl
        have hll : vals.length = L.length := by rw [hL, List.length_map]; exact hlen
        have hat : ∀ p ∈ vals.zip L, NewRow w W p.1 p.2 ∧ ∃ e π, xs π = some e ∧ p.2 = R e := fun p hp => by
          obtain ⟨i, hi, he⟩ := List.mem_iff_getElem.1 hp
          rw [List.getElem_zip] at he
          have hiv : i < vals.length := by simp at hi; omega
          have hil : i < L.length := by omega
          have hid : i < (dfs nd xs F []).length := by omega
          have e1 : p.1 = vals[i] := by rw [← he]
          have e2 : p.2 = R ((dfs nd xs F [])[i]) := by rw [← he]; simp [hL]
          obtain ⟨ρ, _, hρ⟩ := dfs_mem (List.getElem_mem hid)
          refine ⟨?_, _, ρ, hρ, e2⟩
          rw [e1, e2]
          exact hk.each i _ _ (List.getElem?_eq_getElem hiv) (List.getElem?_eq_getElem hid)
        have hka : ∀ p ∈ vals.zip L, KeyAt W g0 p := fun p hp => by
          obtain ⟨⟨a1, c1, hp1, h2, h3⟩, e, π, hx, hR2⟩ := hat p hp
          obtain ⟨⟨ks, hok, hkl, _, hRe⟩, hrw, hrl⟩ := HR.out π e hx
          have hn5 : 5 ≤ p.2.length := by rw [hR2, hrl]; have := HH.out.num; omega
          have hs2 := h2.sees
          obtain ⟨ad, rfl⟩ := sees_some hs2 (by omega)
          refine ⟨ad, c1, hp1, by rw [hp1]; exact hs2, by rw [hR2, hRe]; exact plainK_byte hok, by omega, fun e9 => ?_⟩
          obtain ⟨cur1, hcur1⟩ := h2.tag ad.block rfl
          rw [e9, hcur0] at hcur1
          simp only [Option.some.injEq, Obj.cells.injEq] at hcur1
          exact absurd hcur1.2.1 (by decide)
        refine (sort_c W g0 o0 c vals L hll (by omega) (by have := HCNT.out; omega) hk.own hka).mono ?_
        rintro e w' ⟨rfl, ps, hp1, hp2, hp3, hb⟩
        have hne : g0 ≠ w.heap.size := by omega
        have hnD : g0 ≠ D := by
          rintro rfl
          rw [hcur0] at hK
          cases hK
        have hpl : ps.length = vals.length := by
          rw [hp1.length_eq, List.length_zip]; omega
        refine ⟨rfl, cell_but hb c0 (by simp; exact fun h => hne h.symm), hb.heap hK (by simp; exact fun h => hnD h.symm), ps, ?_, ?_, fun p hp => ?_, ?_, hp3, fun b hb' => by have := hk.low b ((kt_addr _ _ _ _ _).trans hb'); omega, hk.but.trans hb (fun x hx => .inr (by simp at hx; omega))⟩
        · have := hp1.map (·.2)
          rw [List.map_snd_zip (by omega)] at this
          exact this
        · rw [hpl]; exact hp2
        · exact (hat p (hp1.mem_iff.1 hp)).1.but hb (fun y hy C f e => by
            simp only [List.mem_singleton] at hy
            subst hy
            rw [hcur0] at e
            simp only [Option.some.injEq, Obj.cells.injEq] at e
            exact absurd e.2.1 (by decide))
        · refine hp1.symm.pairwise ?_ (fun {x y} h b h1 h2 => h b h2 h1)
          rw [List.pairwise_iff_getElem]
          intro i j hi hj hij b hb1 hb2
          rw [List.getElem_zip] at hb1 hb2
          have hiv : i < vals.length := by simp at hi; omega
          have hjv : j < vals.length := by simp at hj; omega
          have := hk.apart i j _ _ b (List.getElem?_eq_getElem hiv) (List.getElem?_eq_getElem hjv) hb1 hb2
          omega
    have HLEN := Lib.hid hlen
    have HS := Lib.hid hsort
    have HL := Lib.hid hL
    have HDD := Lib.hid hDD
    clear hk hK hD hDD hlen hsort hL
    gi_wp2
    refine ⟨trivial, ?_⟩
    refine (callsIn_wide.2 HS.out).mono ?_
    rintro e w9 ⟨rfl, c9, hK9, ho9⟩
    have HK9 := Lib.hid hK9
    have HO9 := Lib.hid ho9
    dsimp only
    clear hK9 ho9
    gi_wp2
    have hbp := but_putObj (.deferred Option.none) HK9.out
    refine ⟨by simp, .inl ⟨_, _, rfl, run_takeDeferred HK9.out, ?_⟩⟩
    refine ⟨_, results_tmp rfl _ _ _, a, c, ?_, ?_⟩
    · rw [← HLEN.out]; rfl
    · rw [← HL.out]
      exact HO9.out.past hbp HK9.out (by have := HDD.out; omega)
  case stop =>
    rintro D c pre W _ _ h _
    exact h.elim
  case throw =>
    rintro D pre chain W _ h _ _
    exact h.elim
/-- What Keys tells, by the plain map. -/
structure KeysE (K : Nat) (E : EMap) (L : List (List Int)) : Prop where
  ok : ∀ ks ∈ L, KeyOk ks ∧ ks.length = K ∧ plainK ks = ks ∧ ∃ p, E (kbits ks) = some p
  all : ∀ π p, E π = some p → ∃ ks ∈ L, kbits ks = π
  nodup : (L.map kbits).Nodup
theorem plainK_plain {ks : List Int} (h : KeyOk ks) : plainK (plainK ks) = plainK ks := by
  have h1 := plainK_bits h
  have h2 := (plainK_spec h).2.1
  have h3 := plainK_len h.four
  show putAll (headK (plainK ks)) 0 (kbits (plainK ks)) = putAll (headK ks) 0 (kbits ks)
  rw [h1]
  congr 1
  unfold headK
  rw [h2, h3]
theorem TO.keys {w W : World} {S : Nat → Prop} {P K V N : Nat} {E : EMap} {rows : List (List Int)} (h : TO w W S P K V N E rows) :
    Calls Try.prog 13 #[.pointer (some ⟨P, 0, none⟩)] W fun e w' => ∃ a c L, e = .returned (.slice a L.length c) ∧ KeysE K E L ∧ L.length ≤ N ∧ KeysOut W w' a c L := by
  obtain ⟨root, U, Rm, nd, xs, pl, kb, f, g, h1, h2, h3⟩ := h.ex
  obtain ⟨R, hR⟩ := keyRows_ex h1
  obtain ⟨F, hF⟩ : ∃ F, F = W.heap.size + 1 := ⟨_, rfl⟩
  have hinj : ∀ π ρ e, xs π = some e → xs ρ = some e → π = ρ := fun π ρ e ha hb => h1.pinj _ _ _ _ ha hb rfl
  have hnd := dfs_nodup (nd := nd) hinj F []
  have hex : ∀ e ∈ dfs nd xs F [], ∃ π, xs π = some e := fun e he => by
    obtain ⟨ρ, _, hρ⟩ := dfs_mem he
    exact ⟨ρ, hρ⟩
  have hN : (dfs nd xs F []).length ≤ N := by
    have := nodup_le N ((dfs nd xs F []).map pl) (by
      refine List.pairwise_map.2 (List.Pairwise.imp_of_mem (fun {a b} ha hb hne he => hne ?_) hnd)
      obtain ⟨π, hπ⟩ := hex a ha
      obtain ⟨ρ, hρ⟩ := hex b hb
      obtain rfl := h1.pinj _ _ _ _ hπ hρ he
      rw [hπ] at hρ
      cases hρ
      rfl) (fun x hx => by
      obtain ⟨e, he, rfl⟩ := List.mem_map.1 hx
      obtain ⟨π, hπ⟩ := hex e he
      exact h1.plt _ _ hπ)
    simpa using this
  refine Calls.mono (callsIn_wide.1 (keys_w h1 R hR F hF (by have := h1.num; omega))) ?_
  rintro e w' ⟨a, c, rfl, ho⟩
  refine ⟨a, c, (dfs nd xs F []).map R, by rw [List.length_map], ⟨fun ks hk => ?_, fun π p hp => ?_, ?_⟩, by simpa using hN, ho⟩
  · obtain ⟨e, he, rfl⟩ := List.mem_map.1 hk
    obtain ⟨π, hπ⟩ := hex e he
    obtain ⟨⟨ks, hok, hl, hb, hr⟩, _, hrl⟩ := hR π e hπ
    rw [hr]
    exact ⟨plainK_ok hok, by rw [plainK_len hok.four, hl], plainK_plain hok, pl e, by rw [plainK_bits hok, hb, h2, hπ]; rfl⟩
  · rw [h2] at hp
    obtain ⟨e, he, _⟩ := Option.map_eq_some_iff.1 hp
    obtain ⟨⟨ks, hok, hl, hb, hr⟩, _, hrl⟩ := hR π e he
    refine ⟨R e, List.mem_map_of_mem (h1.tree.mem_dfs (π := []) (σ := π) (fun τ b hb => by rw [hF]; exact h1.tree.short (by simpa using hb)) (by simpa using he)), ?_⟩
    rw [hr, plainK_bits hok, hb]
  · rw [List.map_map]
    refine List.pairwise_map.2 (List.Pairwise.imp_of_mem (fun {a b} ha hb hne he => hne ?_) hnd)
    obtain ⟨π, hπ⟩ := hex a ha
    obtain ⟨ρ, hρ⟩ := hex b hb
    obtain ⟨⟨ks, hok, _, hb1, hr⟩, _, _⟩ := hR π a hπ
    obtain ⟨⟨ks', hok', _, hb2, hr'⟩, _, _⟩ := hR ρ b hρ
    simp only [Function.comp] at he
    rw [hr, hr', plainK_bits hok, plainK_bits hok', hb1, hb2] at he
    subst he
    rw [hπ] at hρ
    cases hρ
    rfl
end Go.Proofs.Ytpoinhfkgnkedaa.M
