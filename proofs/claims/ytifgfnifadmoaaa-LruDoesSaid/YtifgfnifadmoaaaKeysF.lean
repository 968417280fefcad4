/-
  lru: Keys (first printed by mkkeysf.py, turned by hand since).
-/
import Derived.Test.YtifgfnifadmoaaaKeys0
import Derived.Test.YtifgfnifadmoaaaOwnQ
import Derived.Laws.IdiomStrings
import Derived.BigRegionIn
namespace Go.Proofs.Ytifgfnifadmoaaa.M
open Go.RowKit Go.Shelf
set_option linter.unusedVariables false
set_option linter.unusedSectionVars false
set_option linter.unusedSimpArgs false
attribute [local go_sem] Oper.semAt_some
/-- A string's bytes, laid anew. -/
def KeyRow (base : Nat) (W : World) (v : Value) (s : ByteArray) : Prop := ∃ g c, v = .slice (some ⟨g, 0, none⟩) s.size c ∧ s.size ≤ c ∧ base ≤ g ∧ W.heap[g]? = some (.cells (bytesRow s c) 5 ((bytesRow s c).size, (bytesRow s c).size + 1))
theorem KeyRow.but {base : Nat} {W W' : World} {v : Value} {s : ByteArray} {L : List Nat} (h : KeyRow base W v s) (hb : But L W W') (hL : ∀ x ∈ L, ∀ C f, W.heap[x]? ≠ some (.cells C 5 f)) : KeyRow base W' v s := by
  obtain ⟨g, c, h1, h2, h3, h4⟩ := h
  exact ⟨g, c, h1, h2, h3, hb.heap h4 (fun hm => hL g hm _ _ h4)⟩
structure KyS (w : World) (pre : List Nat) (W : World) (a : Option Addr) (c : Nat) (vals : List Value) : Prop where
  box : W.heap[w.heap.size]? = some (.cells #[.slice a vals.length c] 26)
  own : OwnQ W 25 (.slice a vals.length c) vals
  low : ∀ b, (Value.slice a vals.length c).ownBlock = some b → w.heap.size + 4 ≤ b
  len : vals.length = pre.length
  each : ∀ (i : Nat) (v : Value) (x : Nat), vals[i]? = some v → pre[i]? = some x → ∃ s, w.cell? ⟨x, 0, none⟩ = some (.string s) ∧ KeyRow w.heap.size W v s
  but : But [] w W
def KyI (w : World) (pre : List Nat) (W : World) : Prop := ∃ a c vals, KyS w pre W a c vals
theorem KyI.abides (w : World) : Abides (w.heap.size + 2) (KyI w) := Abides.of_but fun s V W L h hb hL => by
  obtain ⟨a, c, vals, h⟩ := h
  have hno : ∀ x ∈ L, ∀ C T f, V.heap[x]? ≠ some (.cells C T f) := fun x hx C T f e => by
    obtain ⟨_, o, ho, hc⟩ := hL x hx
    rw [ho] at e
    cases e
    cases hc
  refine ⟨a, c, vals, hb.heap h.box (fun hm => by have := (hL _ hm).1; omega), h.own.but hb (fun k hk hm => ?_), h.low, h.len, fun i v x hv hx => ?_, h.but.trans hb (fun x hx => .inr (by have := (hL x hx).1; omega))⟩
  · obtain ⟨cur, hg⟩ := h.own.tag k hk
    exact hno k hm _ _ _ hg
  · obtain ⟨s', e1, e2⟩ := h.each i v x hv hx
    exact ⟨s', e1, e2.but hb (fun y hy C f => hno y hy _ _ _)⟩
theorem ky_addr (a : Option Addr) (n c n' c' : Nat) : (Value.slice a n c).ownBlock = (Value.slice a n' c').ownBlock := by cases a <;> rfl
theorem KyS.step {w W wz w7 : World} {pre : List Nat} {a : Option Addr} {c : Nat} {vals : List Value} {v' : Value} {x : Nat} {s : ByteArray} {c0 : Nat} (h : KyS w pre W a c vals) (hs : w.cell? ⟨x, 0, none⟩ = some (.string s)) (hz : But [] W wz) (hrow : wz.heap[W.heap.size]? = some (.cells (bytesRow s c0) 5 ((bytesRow s c0).size, (bytesRow s c0).size + 1))) (hc0 : s.size ≤ c0)
    (hap : Appended wz w7 25 (.slice a vals.length c) v' vals [.slice (some ⟨W.heap.size, 0, none⟩) s.size c0]) (hsz : w.heap.size + 4 ≤ W.heap.size) :
    ∃ a7 c7, v' = .slice a7 (vals.length + 1) c7 ∧ w7.frozen? ⟨w.heap.size, 0, none⟩ = false ∧ (∃ u, w7.cell? ⟨w.heap.size, 0, none⟩ = some u) ∧ KyS w (pre ++ [x]) (w7.setCell ⟨w.heap.size, 0, none⟩ (.slice a7 (vals.length + 1) c7)) a7 c7 (vals ++ [.slice (some ⟨W.heap.size, 0, none⟩) s.size c0]) ∧ But (w.heap.size :: (Value.slice a vals.length c).ownBlock.toList) W (w7.setCell ⟨w.heap.size, 0, none⟩ (.slice a7 (vals.length + 1) c7)) := by
  obtain ⟨hq, hc⟩ := hap
  obtain ⟨a7, c7, e⟩ := hq.form
  rw [List.length_append, List.length_singleton] at e
  subst e
  have hb7 : But (Value.slice a vals.length c).ownBlock.toList W w7 := by
    rcases hc with ⟨_, _, _, _, _, hb⟩ | ⟨_, hb⟩
    · exact (hz.mono (by simp)).trans hb (fun x h => .inl h)
    · exact (hz.trans hb (by simp)).mono (by simp)
  have hb7z : But (Value.slice a vals.length c).ownBlock.toList wz w7 := by
    rcases hc with ⟨_, _, _, _, _, hb⟩ | ⟨_, hb⟩
    · exact hb
    · exact hb.mono (by simp)
  have hlow7 : ∀ b, (Value.slice a7 (vals.length + 1) c7).ownBlock = some b → w.heap.size + 4 ≤ b := fun b hb => by
    rcases hc with ⟨a2, cap, e1, e2, _, _⟩ | ⟨hnew, _⟩
    · simp only [Value.slice.injEq] at e1 e2
      obtain ⟨rfl, _, rfl⟩ := e1
      obtain ⟨rfl, _, rfl⟩ := e2
      exact h.low b ((ky_addr _ _ _ _ _).trans hb)
    · rw [hnew] at hb
      cases hb
      exact Nat.le_trans hsz hz.size
  have hOn : w.heap.size ∉ (Value.slice a vals.length c).ownBlock.toList := fun hm => by
    have := h.low w.heap.size (by simpa using hm)
    omega
  have hO7 := hb7.heap h.box hOn
  have hset : But [w.heap.size] w7 (w7.setCell ⟨w.heap.size, 0, none⟩ (.slice a7 (vals.length + 1) c7)) := (But.refl _ _).setCell (.inl (by simp)) _
  have hall : But (w.heap.size :: (Value.slice a vals.length c).ownBlock.toList) W (w7.setCell ⟨w.heap.size, 0, none⟩ (.slice a7 (vals.length + 1) c7)) := (hb7.mono (fun x hx => List.mem_cons_of_mem _ hx)).trans hset (fun x hx => .inl (by simp at hx; subst hx; simp))
  have hno : ∀ y ∈ w.heap.size :: (Value.slice a vals.length c).ownBlock.toList, ∀ C f, W.heap[y]? ≠ some (.cells C 5 f) := fun y hy C f e => by
    rcases List.mem_cons.1 hy with rfl | hy
    · rw [h.box] at e
      simp only [Option.some.injEq, Obj.cells.injEq] at e
      exact absurd e.2.1 (by decide)
    · obtain ⟨cur, hg⟩ := h.own.tag y (by simpa using hy)
      rw [hg] at e
      simp only [Option.some.injEq, Obj.cells.injEq] at e
      exact absurd e.2.1 (by decide)
  have hl : (vals ++ [Value.slice (some ⟨W.heap.size, 0, none⟩) s.size c0]).length = vals.length + 1 := by rw [List.length_append]; rfl
  refine ⟨a7, c7, rfl, by unfold World.frozen?; rw [hO7]; simp, ⟨_, cl_of hO7 0⟩, ⟨?_, ?_, ?_, ?_, fun i v y hv hy => ?_, ?_⟩, hall⟩
  · rw [hl]; simp [World.setCell, Array.getElem?_modify, hO7]
  · rw [hl]
    refine hq.but hset (fun k hk hm => ?_)
    have := hlow7 k hk
    simp at hm
    omega
  · rw [hl]; exact hlow7
  · rw [hl, List.length_append, h.len]; rfl
  · by_cases hi : i < vals.length
    · rw [List.getElem?_append_left hi] at hv
      rw [List.getElem?_append_left (by rw [← h.len]; exact hi)] at hy
      obtain ⟨s', e1, e2⟩ := h.each i v y hv hy
      exact ⟨s', e1, e2.but hall hno⟩
    · rw [List.getElem?_append_right (by omega)] at hv
      rw [List.getElem?_append_right (by rw [← h.len]; omega), ← h.len] at hy
      cases hii : i - vals.length with
      | zero =>
        rw [hii] at hv hy
        simp at hv hy
        subst hv
        subst hy
        refine ⟨s, hs, W.heap.size, c0, rfl, hc0, by omega, ?_⟩
        have h1 : w7.heap[W.heap.size]? = some (.cells (bytesRow s c0) 5 ((bytesRow s c0).size, (bytesRow s c0).size + 1)) := hb7z.heap hrow (fun hm => by
          obtain ⟨cur, hg⟩ := h.own.tag W.heap.size (by simpa using hm)
          have := lt_of hg
          omega)
        exact hset.heap h1 (by simp; omega)
      | succ m => rw [hii] at hv; simp at hv
  · exact (h.but.trans hall (fun x hx => .inr (by
      rcases List.mem_cons.1 hx with rfl | hx
      · exact Nat.le_refl _
      · have := h.low x (by simpa using hx)
        omega)))
theorem link_key {w : World} {e : Ent} (h : LinkW w e) : w.cell? ⟨e.b, 0, none⟩ = some (.string e.key) := by
  obtain ⟨C, h1, _, h2, _⟩ := h
  rw [cl_of h1, h2]
attribute [-go_sem] Builtin.append_
set_option maxRecDepth 100000 in
set_option maxHeartbeats 8000000 in
theorem keys_full {w : World} {P M U Rm : Nat} {g : Nat → Nat} {K V N : Nat} {E : List Ent} {rows : List (List Int)} (h : LruW w P M U Rm g K V N E rows) (hN : N ≤ 1024) :
    CallsIn Fence.wide 3 Try.prog 12 #[.pointer (some ⟨P, 0, none⟩)] w fun e w' => ∃ a c vals, e = .returned (.slice a vals.length c) ∧ vals.length = E.length ∧ OwnQ w' 25 (.slice a vals.length c) vals ∧ (∀ (i : Nat) (v : Value) (e : Ent), vals[i]? = some v → E[i]? = some e → KeyRow w.heap.size w' v e.key) ∧ (∀ b, (Value.slice a vals.length c).ownBlock = some b → w.heap.size ≤ b) ∧ But [] w w' := by
  obtain ⟨i0, hi, hz0, hz1, hz2⟩ := info_parts (show (Try.prog.info? 25).map (fun i => (i.zero, i.size, i.bytes)) = some (some (.slice none 0 0), 1, 24) by kernel_rfl)
  have hcv : ∀ (wz : World) (s : ByteArray), (convert 9 25 (.string s)).run Try.prog wz = .ok (.slice (some ⟨wz.heap.size, 0, none⟩) s.size (grownCap wz s.size 0 5)) (wz.drew.alloc (.cells (bytesRow s (grownCap wz s.size 0 5)) 5 ((bytesRow s (grownCap wz s.size 0 5)).size, (bytesRow s (grownCap wz s.size 0 5)).size + 1))) := fun wz s => run_bytes_of_string wz 9 25 5 s Try.underlying9 Try.underlying25 Try.underlying5
  have HCV := Lib.hid hcv
  have HH := Lib.hid h
  have a8 := h.h8
  have he := eq_mapS M w
  have hb1 : But [] w (w.alloc (.cells #[.slice none 0 0] 26)) := (But.refl [] w).alloc _
  have HB1 := Lib.hid hb1
  have HINF := Lib.hid (show Try.prog.info? 25 = some i0 ∧ i0.zero = some (.slice none 0 0) ∧ i0.size = 1 ∧ i0.bytes = 24 from ⟨hi, hz0, hz1, hz2⟩)
  have HN4 := Lib.hid hN
  clear h hb1 hcv hi hz0 hz1 hz2 hN
  refine callsIn_of_wp_marks Try.func12 rfl trivial ?_ rfl
  simp only [Try.ntmps12, List.size_toArray, List.length_cons, List.length_nil, Nat.reduceAdd, Nat.reduceSub, Array.replicate_succ, Array.replicate_zero, List.push_toArray, List.append_toArray, List.nil_append, List.cons_append]
  gi_wp2
  refine ⟨trivial, ?_⟩
  refine (callsIn_wide.2 (all_c P _)).mono ?_
  have hsz : (w.alloc (.cells #[.slice none 0 0] 26)).heap.size = w.heap.size + 1 := size_alloc _ _
  rintro e w4 ⟨rfl, hw4⟩
  rw [hsz]
  have hb4 : But [] (w.alloc (.cells #[.slice none 0 0] 26)) w4 := by rw [hw4]; exact (But.refl _ _).alloc _
  have HBX : Hid (w4.heap[w.heap.size]? = some (.cells #[.slice none 0 0] 26)) := Lib.hid (hb4.heap (al_at _ _) (by simp))
  have HIT : Hid (w4.heap[w.heap.size + 1]? = some (.cells #[.pointer (some ⟨P, 4, none⟩)] 89)) := Lib.hid (by rw [hw4, ← hsz]; exact al_at _ _)
  have hz : w4.heap.size = w.heap.size + 2 := by rw [hw4, size_alloc, hsz]
  have HZ := Lib.hid hz
  have HB4 : Hid (But [] w w4) := Lib.hid (HB1.out.trans hb4 (by simp))
  have HH4 := Lib.hid (HH.out.new HB4.out)
  have HLT := Lib.hid HH.out.lt
  have HSEQ := Lib.hid (all_seq 2 (by omega) P (w.heap.size + 1) (bl E) (fun b => b = w.heap.size + 1 ∨ b < w.heap.size) w4 HIT.out HH4.out.chain (.inl rfl) (.inr (HH.out.lt P (by simp [ownL]))) (fun x hx => .inr (HH.out.lt x (own_lru (by simp only [List.mem_cons]; exact .inr (.inr (.inr hx)))))))
  clear hsz hw4 hb4 a8 he hz
  gi_wp2
  refine wpIn_rangeFunc_but rfl (by omega) (gf := 48) (lb := #[.pointer (some ⟨w.heap.size + 1, 0, none⟩)]) rfl trivial (enters_of Try.func48 (by kernel_rfl) rfl) HSEQ.out
    (fun h k => h.trans k) (fun hz hb => KeepB.of_but hb (by simp)) (fun V l o o' hl hV ho => KeepB.put V l o o' hV ho) (anyN_abides _ _) (But.refl _ _) (fun _ => rfl)
    (KyI w) (fun c pre W => False) (by rw [HZ.out]; exact KyI.abides w) (fun c => Abides.none _) ⟨none, 0, [], HBX.out, .inl ⟨rfl, rfl⟩, (fun b hb => by cases hb), rfl, (fun i v x hv => by simp at hv), HB4.out⟩
    (fun x a' W => ∃ (u0 u1 u2 u5 u6 u7 u8 u9 u10 u11 u12 u13 u14 u15 u16 u17 u18 u19 u20 u21 u22 u23 u24 u25 u26 u27 u28 : Value), a' = { tmps := List.toArray (u0 :: u1 :: u2 :: .pointer (some ⟨w.heap.size, 0, none⟩) :: .pointer (some ⟨x, 0, none⟩) :: u5 :: u6 :: u7 :: u8 :: u9 :: u10 :: u11 :: u12 :: u13 :: u14 :: u15 :: u16 :: u17 :: u18 :: u19 :: u20 :: u21 :: u22 :: u23 :: u24 :: u25 :: u26 :: u27 :: u28 :: []), defers := [] }) (fun a' => ⟨fun _ _ _ h _ => h, fun _ _ _ _ _ h _ _ _ => h⟩) ?assign ?body ?done ?stop ?throw
  case assign =>
    intro l pre x W K _ _ _ hK
    simp only [encN]
    gi_wp2
    exact hK _ _ (But.refl _ _) ⟨_, _, _, _, _, _, _, _, _, _, _, _, _, _, _, _, _, _, _, _, _, _, _, _, _, _, _, rfl⟩
  case body =>
    rintro l pre x a' W ⟨u0, u1, u2, u5, u6, u7, u8, u9, u10, u11, u12, u13, u14, u15, u16, u17, u18, u19, u20, u21, u22, u23, u24, u25, u26, u27, u28, rfl⟩ ⟨a, c, vals, hk⟩ hx hz hlen
    obtain ⟨k, e, hke, rfl⟩ := bl_mem hx
    have hlk := link_key (HH.out.link e (List.mem_of_getElem? hke))
    have c1 : W.cell? ⟨w.heap.size, 0, none⟩ = some (.slice a vals.length c) := cl_of hk.box 0
    have c2 : W.cell? ⟨e.b, 0, none⟩ = some (.string e.key) := cell_but hk.but hlk (by simp)
    have hcv := fun wz => HCV.out wz e.key
    have hcnt : vals.length ≤ 1024 := by
      have h1 := hk.len
      have h2 := HH.out.few
      have h3 := HN4.out
      rw [bl_len] at hlen
      omega
    have hzz : w.heap.size + 4 ≤ W.heap.size := by have := HZ.out; omega
    obtain ⟨c0, hc0⟩ : ∃ c0, c0 = grownCap W.drew e.key.size 0 5 := ⟨_, rfl⟩
    have hge : e.key.size ≤ c0 := by rw [hc0]; exact grownCap_ge _ _ _ _
    obtain ⟨Wb, hWb⟩ : ∃ Wb, Wb = ((W.alloc (.cells (bytesRow e.key c0) 5 ((bytesRow e.key c0).size, (bytesRow e.key c0).size + 1))).alloc (.cells #[.slice (some ⟨W.heap.size, 0, none⟩) e.key.size c0] 25)).drew.drew := ⟨_, rfl⟩
    have hbW : But [] W Wb := by rw [hWb]; exact ((((But.refl [] W).alloc _).alloc _).drew).drew
    have hrowW : Wb.heap[W.heap.size]? = some (.cells (bytesRow e.key c0) 5 ((bytesRow e.key c0).size, (bytesRow e.key c0).size + 1)) := by rw [hWb]; exact al_keep (al_at W _) _
    have hsl : Wb.heap[W.heap.size + 1]? = some (.cells #[.slice (some ⟨W.heap.size, 0, none⟩) e.key.size c0] 25) := by rw [hWb]; exact al_eq _ _ _ (by rw [size_alloc])
    have hsrc : Src Try.prog i0.size 26 (.slice (some ⟨W.heap.size + 1, 0, none⟩) 1 1) [Value.slice (some ⟨W.heap.size, 0, none⟩) e.key.size c0].length [Value.slice (some ⟨W.heap.size, 0, none⟩) e.key.size c0] Wb := by
      rw [HINF.out.2.2.1]
      refine Src.ofSlice _ Try.underlying26 _ 1 1 _ (by simp) (fun j u hj => ?_) (by intro u hu; simp at hu; subst hu; rfl)
      cases j with
      | zero =>
        simp at hj
        subst hj
        rw [add_at]
        exact cl_of hsl 0
      | succ j => simp at hj
    obtain ⟨v', w7, hrun, hap⟩ := run_append_row (P := Try.prog) (w := Wb) 26 26 25 i0 (.slice none 0 0) 24 Try.underlying26 HINF.out.1 HINF.out.2.1 HINF.out.2.2.1 HINF.out.2.2.2 rfl (.slice a vals.length c) vals (hk.own.but hbW (by simp)) _ _ hsrc (by have h0 : ∀ x : Value, [x].length = 1 := fun _ => rfl; unfold maxLen; rw [h0]; omega) (by have h0 : ∀ x : Value, [x].length = 1 := fun _ => rfl; rw [h0]; omega)
    obtain ⟨a7, c7, rfl, gf7, ⟨u7, gc7⟩, h7, hall⟩ := hk.step hlk hbW hrowW hge hap hzz
    have H7 : Hid (KeepsD w4.heap.size W (w7.setCell ⟨w.heap.size, 0, none⟩ (.slice a7 (vals.length + 1) c7)) ∧ KeepB (fun b => b = w.heap.size + 1 ∨ b < w.heap.size) W (w7.setCell ⟨w.heap.size, 0, none⟩ (.slice a7 (vals.length + 1) c7)) ∧ KyI w (pre ++ [e.b]) (w7.setCell ⟨w.heap.size, 0, none⟩ (.slice a7 (vals.length + 1) c7))) := Lib.hid (by
      refine ⟨KeepsD.of_but hall (by rw [HZ.out]; omega) (fun y hy => ?_), KeepB.of_but hall (fun y hy => ?_), _, _, _, h7⟩
      · rcases List.mem_cons.1 hy with rfl | hy
        · have := HZ.out; omega
        · have := hk.low y (by simpa using hy); have := HZ.out; omega
      · rcases List.mem_cons.1 hy with rfl | hy
        · omega
        · have := hk.low y (by simpa using hy); omega)
    have hlW := lt_of hk.box
    rw [hWb] at hrun
    have hcv' := hcv W.drew
    rw [← hc0] at hcv'
    clear hx hz hlen hk hke hlk hcv hcnt hzz hc0 hge hbW hrowW hsl hsrc hap h7 hall hWb
    have mixed : Try.prog.follows .mixedOrders = true := by kernel_rfl
    gi_wp2
    gi_region_with_o (fail)
    all_goals
      gi_wp2
      exact H7.out
  case done =>
    rintro D xs W hD hS hI hK
    obtain ⟨a, c, vals, hk⟩ := hI
    subst hS
    have c0 : W.cell? ⟨w.heap.size, 0, none⟩ = some (.slice a vals.length c) := cl_of hk.box 0
    have HKS := Lib.hid hk
    have HK := Lib.hid hK
    have HDD : Hid (w.heap.size + 2 = D) := Lib.hid (by rw [hD, HZ.out])
    clear hk hK hD
    gi_wp2
    have hbp := but_putObj (.deferred Option.none) HK.out
    refine ⟨by simp, .inl ⟨_, _, rfl, run_takeDeferred HK.out, ?_⟩⟩
    have hno : ∀ C T f, W.heap[D]? ≠ some (.cells C T f) := fun C T f e => by rw [HK.out] at e; cases e
    refine ⟨_, results_tmp rfl _ _ _, a, c, vals, rfl, by rw [HKS.out.len, bl_len], HKS.out.own.but hbp (fun k hk hm => ?_), fun i v e hv he => ?_, fun b hb => by have := HKS.out.low b hb; omega, HKS.out.but.trans hbp (fun y hy => .inr (by have := HDD.out; simp at hy; omega))⟩
    · obtain ⟨cur, hg⟩ := HKS.out.own.tag k hk
      simp only [List.mem_singleton] at hm
      subst hm
      exact hno _ _ _ hg
    · obtain ⟨s, e1, e2⟩ := HKS.out.each i v e.b hv (by rw [bl, List.getElem?_map, he]; rfl)
      rw [link_key (HH.out.link e (List.mem_of_getElem? he))] at e1
      simp only [Option.some.injEq, Value.string.injEq] at e1
      rw [e1]
      exact e2.but hbp (fun y hy C f => by simp only [List.mem_singleton] at hy; subst hy; exact hno _ _ _)
  case stop =>
    rintro D c pre W _ _ h _
    exact h.elim
  case throw =>
    rintro D pre chain W _ h _ _
    exact h.elim
end Go.Proofs.Ytifgfnifadmoaaa.M
