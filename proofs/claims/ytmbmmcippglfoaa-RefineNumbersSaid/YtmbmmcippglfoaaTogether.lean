/-
  scalar.work.together.
-/
import Derived.Test.YtmbmmcippglfoaaRuleSeq
import Derived.Test.YtmbmmcippglfoaaTog
namespace Go.Proofs.Ytmbmmcippglfoaa.M
open Go.RowKit Go.Shelf
set_option linter.unusedVariables false
set_option linter.unusedSectionVars false
set_option linter.unusedSimpArgs false
attribute [local go_sem] Oper.semAt_some
def mkM (D : Nat) : Deferred := { target := .collected D, args := #[] }
theorem leaves_marks {F : Fence} {n : Nat} {P : Program} {fn : Func} {tmps : Array Value} {R : Ending → World → Prop} : ∀ (Ds : List Nat) (W : World), Ds.Nodup → (∀ D ∈ Ds, W.heap[D]? = some (.deferred (some []))) →
    (∀ W', But Ds W W' → ∃ v, (results fn tmps).run P W' = .ok v W' ∧ R (.returned v) W') → LeavesInM F n P fn tmps R (Ds.map mkM) .returning W := by
  intro Ds
  induction Ds with
  | nil => intro W _ _ h; exact h W (But.refl _ _)
  | cons D Ds ih =>
    intro W hN hD h
    have hd := hD D (by simp)
    have hN' := List.nodup_cons.1 hN
    refine ⟨by simp, .inl ⟨D, _, rfl, run_takeDeferred hd, ih _ hN'.2 (fun E hE => ?_) (fun W' hb => h W' ?_)⟩⟩
    · exact (but_putObj _ hd).heap (hD E (by simp [hE])) (by simp only [List.mem_singleton]; rintro rfl; exact hN'.1 hE)
    · exact ((but_putObj _ hd).mono (by simp)).trans hb (fun x hx => .inl (by simp [hx]))
/-- What the rounds keep. -/
structure TW (w : World) (B : Nat) (s : Sc) (Ds : List Nat) (st : Sc) (W : World) : Prop where
  wk : WkAt W B st
  wf : Wf st
  same : tog st = tog s
  but : But [B] w W
  res : W.heap[w.heap.size]? = some (.cells #[.bool false] 4)
  marks : ∀ D ∈ Ds, w.heap.size < D ∧ W.heap[D]? = some (.deferred (some []))
  nodup : Ds.Nodup
def cellN (W : World) (p : Addr) : Int := match W.cell? p with | some (.int _ n) => n | _ => 0
def muW (B : Nat) (W : World) : Nat := ((cellN W ⟨B, 1, none⟩).toNat + ((cellN W ⟨B, 3, none⟩).toNat - (cellN W ⟨B, 2, none⟩).toNat)) + (cellN W ⟨B, 5, none⟩ - cellN W ⟨B, 4, none⟩).toNat
theorem muW_at {B : Nat} {W : World} {s : Sc} (h : WkAt W B s) : muW B W = mu s := by
  have c (j : Nat) := cl_of h j
  simp only [muW, cellN, c, scCells]
  simp [mu]
def TInv (w : World) (B : Nat) (s : Sc) (a : Act) (W : World) : Prop := ∃ Ds st u3 u4 u5 u6 u7 u8 u9 u10 u11 u12 u13 u14 u15 u16 u17 u18 u19 u20,
  a = { tmps := #[.pointer (some ⟨B, 0, none⟩), undef, .pointer (some ⟨w.heap.size, 0, none⟩), u3, u4, u5, u6, u7, u8, u9, u10, u11, u12, u13, u14, u15, u16, u17, u18, u19, u20], defers := Ds.map mkM } ∧ TW w B s Ds st W
/-- What the rounds over the rules keep. -/
structure RW (W0 : World) (B q5 bs b3 b4 p3 r : Nat) (st0 : Sc) (pre : List Nat) (W : World) : Prop where
  st : ∃ st, runs pre st0 = some st ∧ WkAt W B st
  wf0 : Wf st0
  ra : RulesAt W B q5 bs b3 b4
  was : W.heap[p3]? = some (.cells (scCells st0) 28)
  p3n : p3 ≠ B
  res : W.heap[r]? = some (.cells #[.bool false] 4)
  rn : r ≠ B
  but : But [B] W0 W
structure RX (W0 : World) (r B : Nat) (st0 : Sc) (c : Code) (pre : List Nat) (W : World) : Prop where
  c : c = .ret
  no : runs pre st0 = none
  res : W.heap[r]? = some (.cells #[.bool false] 4)
  but : But [B, r] W0 W
theorem RulesAt.but {V W : World} {L : List Nat} {B q5 bs b3 b4 : Nat} (h : RulesAt V B q5 bs b3 b4) (hb : But L V W) (hL : ∀ x ∈ L, x ≠ q5 ∧ x ≠ bs ∧ x ≠ b3 ∧ x ≠ b4) : RulesAt W B q5 bs b3 b4 := by
  obtain ⟨c5, ⟨t, cb⟩, c3, c4, n5, nb, n3, n4⟩ := h
  exact ⟨cell_but hb c5 (fun hm => (hL _ hm).1 rfl), ⟨t, hb.heap cb (fun hm => (hL _ hm).2.1 rfl)⟩, cell_but hb c3 (fun hm => (hL _ hm).2.2.1 rfl), cell_but hb c4 (fun hm => (hL _ hm).2.2.2 rfl), n5, nb, n3, n4⟩
theorem cell_cells {W : World} {k : Nat} {v : Value} (h : W.cell? ⟨k, 0, none⟩ = some v) : ∃ cs t f, W.heap[k]? = some (.cells cs t f) := by
  unfold World.cell? at h
  cases ho : W.heap[k]? with
  | none => rw [ho] at h; cases h
  | some o =>
    cases o with
    | cells cs t f => exact ⟨cs, t, f, rfl⟩
    | _ => rw [ho] at h; simp at h
theorem no_cells {W : World} {k : Nat} {cs : Array Value} {t : TypeId} {f : Nat × Nat} {o : Obj} (h : W.heap[k]? = some (.cells cs t f)) (h2 : W.heap[k]? = some o) (h3 : o.isCells = false) : False := by
  rw [h] at h2; cases h2; cases h3
theorem RW.abides (W0 : World) (B q5 bs b3 b4 p3 r : Nat) (st0 : Sc) (N : Nat) (hN : W0.heap.size ≤ N) : Abides N (RW W0 B q5 bs b3 b4 p3 r st0) := Abides.of_but fun pre V X L h hb hL => by
  have nc : ∀ {k : Nat} {v : Value}, V.cell? ⟨k, 0, none⟩ = some v → ∀ x ∈ L, x ≠ k := fun {k v} hk x hx e => by
    obtain ⟨cs, t, f, hc⟩ := cell_cells hk
    obtain ⟨_, o, ho, hi⟩ := hL x hx
    subst e
    exact no_cells hc ho hi
  have nh : ∀ {k : Nat} {cs : Array Value} {t : TypeId}, V.heap[k]? = some (.cells cs t) → k ∉ L := fun {k cs t} hk hx => by
    obtain ⟨_, o, ho, hi⟩ := hL k hx
    exact no_cells hk ho hi
  obtain ⟨⟨st, hs, hw⟩, wf, ra, was, p3n, res, rn, bt⟩ := h
  obtain ⟨t, hbs⟩ := ra.cb
  exact ⟨⟨st, hs, hb.heap hw (nh hw)⟩, wf, ra.but hb (fun x hx => ⟨nc ra.c5 x hx, fun e => nh hbs (e ▸ hx), nc ra.c3 x hx, nc ra.c4 x hx⟩), hb.heap was (nh was), p3n, hb.heap res (nh res), rn, bt.trans hb (fun x hx => .inr (Nat.le_trans hN (hL x hx).1))⟩
theorem RX.abides (W0 : World) (r B : Nat) (st0 : Sc) (c : Code) (N : Nat) (hN : W0.heap.size ≤ N) : Abides N (RX W0 r B st0 c) := Abides.of_but fun pre V X L h hb hL => by
  have nh : ∀ {k : Nat} {cs : Array Value} {t : TypeId}, V.heap[k]? = some (.cells cs t) → k ∉ L := fun {k cs t} hk hx => by
    obtain ⟨_, o, ho, hi⟩ := hL k hx
    exact no_cells hk ho hi
  obtain ⟨hc, hn, res, bt⟩ := h
  exact ⟨hc, hn, hb.heap res (nh res), bt.trans hb (fun x hx => .inr (Nat.le_trans hN (hL x hx).1))⟩
theorem RW.step {W0 V W : World} {B q5 bs b3 b4 p3 r : Nat} {st0 st : Sc} {pre : List Nat} {x : Nat} (h : RW W0 B q5 bs b3 b4 p3 r st0 pre V) (hs : runs pre st0 = some st) (hok : okk x st = true) (hw : WkAt W B (rk x st)) (hb : But [B] V W) : RW W0 B q5 bs b3 b4 p3 r st0 (pre ++ [x]) W := by
  obtain ⟨_, wf, ra, was, p3n, res, rn, bt⟩ := h
  exact ⟨⟨rk x st, by rw [runs_snoc, hs]; simp [stepR, hok], hw⟩, wf, ra.but hb (by simp only [List.mem_singleton]; rintro x rfl; exact ⟨ra.n5.symm, ra.nb.symm, ra.n3.symm, ra.n4.symm⟩), hb.heap was (by simpa using p3n), p3n, hb.heap res (by simpa using rn), rn, bt.trans hb (fun x hx => .inl hx)⟩
theorem RW.stop {W0 V W : World} {B q5 bs b3 b4 p3 r : Nat} {st0 st : Sc} {pre : List Nat} {x : Nat} (h : RW W0 B q5 bs b3 b4 p3 r st0 pre V) (hs : runs pre st0 = some st) (hok : okk x st = false) (hb : But [B] V W) : RX W0 r B st0 .ret (pre ++ [x]) (W.setCell ⟨r, 0, none⟩ (.bool false)) := by
  have hr := hb.heap h.res (by simpa using h.rn)
  refine ⟨rfl, by rw [runs_snoc, hs]; simp [stepR, hok], ?_, ((h.but.trans hb (fun x hx => .inl hx)).mono (by simp)).setCell (.inl (by simp)) _⟩
  simp [World.setCell, Array.getElem?_modify, hr]
theorem runs_none {k : Nat} {s : Sc} (h : runs (List.range k) s = none) : ∀ j, k ≤ j → runs (List.range j) s = none := by
  intro j
  induction j with
  | zero => intro hk; obtain rfl : k = 0 := (by omega); exact h
  | succ j ih =>
    intro hk
    by_cases e : k = j + 1
    · subst e; exact h
    · rw [List.range_succ, runs_snoc, ih (by omega)]; rfl
theorem wk_cells {W : World} {B : Nat} {s : Sc} (h : WkAt W B s) {k : Nat} {o : Obj} (hk : W.heap[k]? = some o) (ho : o.isCells = false) : k ≠ B := fun e => no_cells (e ▸ h) hk ho
/-- The marks, a round later. -/
theorem TW.marksAt {w W W2 W5 : World} {B : Nat} {s st : Sc} {Ds : List Nat} {q5 bs b3 b4 p3 r : Nat} {st0 : Sc} {pre : List Nat} (h : TW w B s Ds st W) (hb : But [] W W2) (hb5 : But [B, w.heap.size] W2 W5) (hk : W5.heap[W2.heap.size]? = some (.deferred (some []))) :
    (∀ D ∈ W2.heap.size :: Ds, w.heap.size < D ∧ W5.heap[D]? = some (.deferred (some []))) ∧ (W2.heap.size :: Ds).Nodup := by
  have hz := hb.size
  have hr := lt_of h.res
  constructor
  · intro D hD
    rcases List.mem_cons.1 hD with rfl | hD
    · exact ⟨by omega, hk⟩
    · obtain ⟨h1, h2⟩ := h.marks D hD
      refine ⟨h1, hb5.heap (hb.heap h2 (by simp)) ?_⟩
      simp only [List.mem_cons, List.not_mem_nil, or_false, not_or]
      exact ⟨wk_cells h.wk h2 rfl, by omega⟩
  · rw [List.nodup_cons]
    refine ⟨fun hm => ?_, h.nodup⟩
    have := lt_of (h.marks _ hm).2
    omega
set_option maxRecDepth 100000 in
set_option maxHeartbeats 8000000 in
theorem together_w (n : Nat) (hn : 3 ≤ n) (B : Nat) (s : Sc) (w : World) (hB : WkAt w B s) (hw : Wf s) : CallsIn Fence.wide n Try.prog 64 #[.pointer (some ⟨B, 0, none⟩)] w fun e w' => e = .returned (.bool (tog s).isSome) ∧ (∀ st, tog s = some st → WkAt w' B st) ∧ But [B] w w' := by
  have H0 : Hid (TW w B s [] s (w.alloc (.cells #[.bool false] 4))) := Lib.hid ⟨al_keep hB _, hw, rfl, (But.refl [B] w).alloc _, al_at _ _, by simp, List.nodup_nil⟩
  clear hB hw
  refine callsIn_of_wp_marks Try.func64 rfl trivial ?_ rfl
  simp only [Try.ntmps64, List.size_toArray, List.length_cons, List.length_nil, Nat.reduceAdd, Nat.reduceSub, Array.replicate_succ, Array.replicate_zero, List.push_toArray, List.append_toArray, List.nil_append, List.cons_append]
  gi_wp2
  refine wpIn_loop (TInv w B s) (fun _ W => muW B W) ⟨[], s, _, _, _, _, _, _, _, _, _, _, _, _, _, _, _, _, _, _, rfl, H0.out⟩ ?_
  rintro a W ⟨Ds, st, u3, u4, u5, u6, u7, u8, u9, u10, u11, u12, u13, u14, u15, u16, u17, u18, u19, u20, rfl, hT⟩
  obtain ⟨⟨v, m⟩, ⟨lo, hi, sl, sh⟩⟩ := st
  have hk := hT.wk
  obtain ⟨d0, d1, d2, d3, d4, d5⟩ := c6_of hk
  have HT := Lib.hid hT
  clear hT hk H0
  gi_wp2
  refine ⟨trivial, fun _ => by omega, ?_⟩
  obtain ⟨W1, hW1⟩ : ∃ X, X = W.alloc (.cells (scCells ⟨⟨v, m⟩, ⟨lo, hi, sl, sh⟩⟩) 28) := ⟨_, rfl⟩
  have HW1 : Hid (W1.heap[W.heap.size]? = some (.cells (scCells ⟨⟨v, m⟩, ⟨lo, hi, sl, sh⟩⟩) 28) ∧ But [] W W1) := Lib.hid (by rw [hW1]; exact ⟨al_at _ _, (But.refl [] W).alloc _⟩)
  refine (callsIn_wide.2 (rulesGo B ⟨⟨v, m⟩, ⟨lo, hi, sl, sh⟩⟩ _ (by have h := HW1.out.2.heap HT.out.wk (by simp); rw [hW1] at h; exact h))).mono ?_
  rintro e W2 ⟨q5, bs, b3, b4, rfl, hRA, hb2⟩
  have hb2' : But [] W W2 := HW1.out.2.trans (by rw [hW1]; exact hb2) (by simp)
  have hR0 : RW W2 B q5 bs b3 b4 W.heap.size w.heap.size ⟨⟨v, m⟩, ⟨lo, hi, sl, sh⟩⟩ [] W2 := by
    have hBl := lt_of HT.out.wk
    have hwas : W2.heap[W.heap.size]? = _ := (show But [] W1 W2 by rw [hW1]; exact hb2).heap HW1.out.1 (by simp)
    refine ⟨⟨_, rfl, hb2'.heap HT.out.wk (by simp)⟩, HT.out.wf, hRA, hwas, by omega, hb2'.heap HT.out.res (by simp), ?_, But.refl _ _⟩
    intro e
    have h1 := HT.out.res
    rw [e] at h1
    have h2 := HT.out.wk
    unfold WkAt at h2
    rw [h1] at h2
    simp [scCells] at h2
  have HR0 := Lib.hid hR0
  have HB2 := Lib.hid hb2'
  have HRA := Lib.hid hRA
  have HSQ := Lib.hid (rules5_seq (n - 1) (by omega) q5 bs b3 b4 (fun b => b ≠ B ∧ b < W2.heap.size) W2 hRA.c5 hRA.cb ⟨hRA.n5, cell_lt hRA.c5⟩ ⟨hRA.nb, by obtain ⟨t, h⟩ := hRA.cb; exact lt_of h⟩)
  clear hb2 hb2' hRA hR0 hW1 HW1 d0 d1 d2 d3 d4 d5
  gi_wp2
  refine wpIn_rangeFunc_but rfl (by omega) (gf := 119) (lb := #[.pointer (some ⟨q5, 0, none⟩)]) rfl trivial (enters_of Try.func119 (by kernel_rfl) rfl) HSQ.out
    (fun h k => h.trans k) (fun hz hb => KeepIn.of_but hb (by simp)) (fun V l o o' hl hV ho => KeepIn.of_but (but_putObj o' hV) (by simp only [List.mem_singleton]; rintro x rfl ⟨h1, h2⟩; omega)) ⟨fun _ _ _ h _ => h, fun _ _ _ _ _ h _ _ _ => h⟩ (But.refl _ _) (fun _ => rfl)
    (RW W2 B q5 bs b3 b4 W.heap.size w.heap.size ⟨⟨v, m⟩, ⟨lo, hi, sl, sh⟩⟩) (RX W2 w.heap.size B ⟨⟨v, m⟩, ⟨lo, hi, sl, sh⟩⟩) (RW.abides _ _ _ _ _ _ _ _ _ _ (Nat.le_refl _)) (fun c => RX.abides _ _ _ _ c _ (Nat.le_refl _)) HR0.out
    (fun x a' _ => a' = { tmps := #[.pointer (some ⟨B, 0, none⟩), undef, .pointer (some ⟨w.heap.size, 0, none⟩), .pointer (some ⟨W.heap.size, 0, none⟩), ruleFn b3 b4 x, .pointer (some ⟨B, 0, none⟩), .pointer (some ⟨B, 0, none⟩), .pointer (some ⟨B, 0, none⟩), Sc.val ⟨⟨v, m⟩, ⟨lo, hi, sl, sh⟩⟩, .pointer (some ⟨B, 0, none⟩), .func (.func 119) #[] #[.pointer (some ⟨q5, 0, none⟩)], ruleFn b3 b4 x, u12, u13, u14, u15, u16, u17, u18, u19, u20], defers := [] })
    (fun a' => ⟨fun _ _ _ h _ => h, fun _ _ _ _ _ h _ _ _ => h⟩) ?assign ?body ?done ?stop ?throw
  case assign =>
    intro l pre x W5 K _ _ _ hK
    simp only [encF]
    gi_wp2
    exact hK _ _ (But.refl _ _) rfl
  case throw =>
    rintro D pre chain W5 _ h _ _
    exact h.elim
  case body =>
    rintro l pre x a' W5 hx0 hI hA _ hlt
    subst hx0
    obtain ⟨st5, hst, hwk⟩ := hI.st
    have hwf := (runs_wf hI.wf0 hst).1
    have HI := Lib.hid hI
    have HST := Lib.hid hst
    have hA' : x = 0 ∨ x = 1 ∨ x = 2 ∨ x = 3 := by unfold AnyF at hA; omega
    have HC1 := Lib.hid (rule1 B b3 b4 st5 W5 hwk hI.ra.c3 hI.ra.c4)
    have HC2 := Lib.hid (rule2 B b3 b4 st5 W5 hwf.u hwk hI.ra.c3 hI.ra.c4)
    have HC3 := Lib.hid (rule3 B b3 st5 W5 hwk hI.ra.c3)
    have HC4 := Lib.hid (rule4 B b3 st5 W5 hwk hI.ra.c3)
    clear hst hwk hwf hA hI
    rcases hA' with rfl | rfl | rfl | rfl <;> simp only [ruleFn]
    · have hok : okk 0 st5 = ok1 st5 := rfl
      have HW6 : Hid (∀ W6, WkAt W6 B (r1 st5) → WkAt W6 B (rk 0 st5)) := Lib.hid (fun _ h => h)
      have hrr : W5.cell? ⟨w.heap.size, 0, none⟩ = some (.bool false) := cl_of HI.out.res 0
      have hrf : W5.frozen? ⟨w.heap.size, 0, none⟩ = false := fz_of HI.out.res 0
      gi_wp2
      refine ⟨trivial, fun _ => by omega, ?_⟩
      refine ((callsIn_wide.2 HC1.out).inRound l).mono ?_
      rintro e W6 ⟨rfl, h6, hb6⟩
      have g0 : W6.cell? ⟨w.heap.size, 0, none⟩ = some (.bool false) := cl_of (hb6.heap HI.out.res (by simpa using HI.out.rn)) 0
      have g1 : W6.frozen? ⟨w.heap.size, 0, none⟩ = false := fz_of (hb6.heap HI.out.res (by simpa using HI.out.rn)) 0
      have HK6 : Hid (KeepsOthers W5 W6) := Lib.hid (keepsOthers_of_but hb6 (by simp only [List.mem_singleton]; rintro k rfl; obtain ⟨st, _, h⟩ := HI.out.st; exact ⟨_, _, _, h⟩))
      have H6 := Lib.hid h6
      have HB6 := Lib.hid hb6
      clear h6 hb6 hrr hrf
      rw [← hok]
      cases ho : okk 0 st5 with
      | true =>
        have HO := Lib.hid ho
        clear ho hok
        gi_wp2
        exact ⟨HK6.out, KeepIn.of_but HB6.out (by simp only [List.mem_singleton]; rintro x rfl h; exact h.1 rfl), HI.out.step HST.out HO.out (HW6.out _ H6.out) HB6.out⟩
      | false =>
        have HO := Lib.hid ho
        clear ho hok
        gi_wp2
        exact ⟨HK6.out.trans (KeepsOthers.setCell _ _ _), HI.out.stop HST.out HO.out HB6.out⟩
    · have hok : okk 1 st5 = ok2 st5 := rfl
      have HW6 : Hid (∀ W6, WkAt W6 B (r2 st5) → WkAt W6 B (rk 1 st5)) := Lib.hid (fun _ h => h)
      have hrr : W5.cell? ⟨w.heap.size, 0, none⟩ = some (.bool false) := cl_of HI.out.res 0
      have hrf : W5.frozen? ⟨w.heap.size, 0, none⟩ = false := fz_of HI.out.res 0
      gi_wp2
      refine ⟨trivial, fun _ => by omega, ?_⟩
      refine ((callsIn_wide.2 HC2.out).inRound l).mono ?_
      rintro e W6 ⟨rfl, h6, hb6⟩
      have g0 : W6.cell? ⟨w.heap.size, 0, none⟩ = some (.bool false) := cl_of (hb6.heap HI.out.res (by simpa using HI.out.rn)) 0
      have g1 : W6.frozen? ⟨w.heap.size, 0, none⟩ = false := fz_of (hb6.heap HI.out.res (by simpa using HI.out.rn)) 0
      have HK6 : Hid (KeepsOthers W5 W6) := Lib.hid (keepsOthers_of_but hb6 (by simp only [List.mem_singleton]; rintro k rfl; obtain ⟨st, _, h⟩ := HI.out.st; exact ⟨_, _, _, h⟩))
      have H6 := Lib.hid h6
      have HB6 := Lib.hid hb6
      clear h6 hb6 hrr hrf
      rw [← hok]
      cases ho : okk 1 st5 with
      | true =>
        have HO := Lib.hid ho
        clear ho hok
        gi_wp2
        exact ⟨HK6.out, KeepIn.of_but HB6.out (by simp only [List.mem_singleton]; rintro x rfl h; exact h.1 rfl), HI.out.step HST.out HO.out (HW6.out _ H6.out) HB6.out⟩
      | false =>
        have HO := Lib.hid ho
        clear ho hok
        gi_wp2
        exact ⟨HK6.out.trans (KeepsOthers.setCell _ _ _), HI.out.stop HST.out HO.out HB6.out⟩
    · have hok : okk 2 st5 = ok3 st5 := rfl
      have HW6 : Hid (∀ W6, WkAt W6 B (r3 st5) → WkAt W6 B (rk 2 st5)) := Lib.hid (fun _ h => h)
      have hrr : W5.cell? ⟨w.heap.size, 0, none⟩ = some (.bool false) := cl_of HI.out.res 0
      have hrf : W5.frozen? ⟨w.heap.size, 0, none⟩ = false := fz_of HI.out.res 0
      gi_wp2
      refine ⟨trivial, fun _ => by omega, ?_⟩
      refine ((callsIn_wide.2 HC3.out).inRound l).mono ?_
      rintro e W6 ⟨rfl, h6, hb6⟩
      have g0 : W6.cell? ⟨w.heap.size, 0, none⟩ = some (.bool false) := cl_of (hb6.heap HI.out.res (by simpa using HI.out.rn)) 0
      have g1 : W6.frozen? ⟨w.heap.size, 0, none⟩ = false := fz_of (hb6.heap HI.out.res (by simpa using HI.out.rn)) 0
      have HK6 : Hid (KeepsOthers W5 W6) := Lib.hid (keepsOthers_of_but hb6 (by simp only [List.mem_singleton]; rintro k rfl; obtain ⟨st, _, h⟩ := HI.out.st; exact ⟨_, _, _, h⟩))
      have H6 := Lib.hid h6
      have HB6 := Lib.hid hb6
      clear h6 hb6 hrr hrf
      rw [← hok]
      cases ho : okk 2 st5 with
      | true =>
        have HO := Lib.hid ho
        clear ho hok
        gi_wp2
        exact ⟨HK6.out, KeepIn.of_but HB6.out (by simp only [List.mem_singleton]; rintro x rfl h; exact h.1 rfl), HI.out.step HST.out HO.out (HW6.out _ H6.out) HB6.out⟩
      | false =>
        have HO := Lib.hid ho
        clear ho hok
        gi_wp2
        exact ⟨HK6.out.trans (KeepsOthers.setCell _ _ _), HI.out.stop HST.out HO.out HB6.out⟩
    · have hok : okk 3 st5 = ok4 st5 := rfl
      have HW6 : Hid (∀ W6, WkAt W6 B (r4 st5) → WkAt W6 B (rk 3 st5)) := Lib.hid (fun _ h => h)
      have hrr : W5.cell? ⟨w.heap.size, 0, none⟩ = some (.bool false) := cl_of HI.out.res 0
      have hrf : W5.frozen? ⟨w.heap.size, 0, none⟩ = false := fz_of HI.out.res 0
      gi_wp2
      refine ⟨trivial, fun _ => by omega, ?_⟩
      refine ((callsIn_wide.2 HC4.out).inRound l).mono ?_
      rintro e W6 ⟨rfl, h6, hb6⟩
      have g0 : W6.cell? ⟨w.heap.size, 0, none⟩ = some (.bool false) := cl_of (hb6.heap HI.out.res (by simpa using HI.out.rn)) 0
      have g1 : W6.frozen? ⟨w.heap.size, 0, none⟩ = false := fz_of (hb6.heap HI.out.res (by simpa using HI.out.rn)) 0
      have HK6 : Hid (KeepsOthers W5 W6) := Lib.hid (keepsOthers_of_but hb6 (by simp only [List.mem_singleton]; rintro k rfl; obtain ⟨st, _, h⟩ := HI.out.st; exact ⟨_, _, _, h⟩))
      have H6 := Lib.hid h6
      have HB6 := Lib.hid hb6
      clear h6 hb6 hrr hrf
      rw [← hok]
      cases ho : okk 3 st5 with
      | true =>
        have HO := Lib.hid ho
        clear ho hok
        gi_wp2
        exact ⟨HK6.out, KeepIn.of_but HB6.out (by simp only [List.mem_singleton]; rintro x rfl h; exact h.1 rfl), HI.out.step HST.out HO.out (HW6.out _ H6.out) HB6.out⟩
      | false =>
        have HO := Lib.hid ho
        clear ho hok
        gi_wp2
        exact ⟨HK6.out.trans (KeepsOthers.setCell _ _ _), HI.out.stop HST.out HO.out HB6.out⟩
  case done =>
    rintro D xs W5 rfl rfl hI hK
    have HI := Lib.hid hI
    have HK := Lib.hid hK
    obtain ⟨st5, hst, hwk⟩ := hI.st
    obtain ⟨⟨v5, m5⟩, ⟨lo5, hi5, sl5, sh5⟩⟩ := st5
    obtain ⟨d0, d1, d2, d3, d4, d5⟩ := c6_of hwk
    obtain ⟨e0, e1, e2, e3, e4, e5⟩ := c6_of hI.was
    have hrr : W5.cell? ⟨w.heap.size, 0, none⟩ = some (.bool false) := cl_of hI.res 0
    have hrf : W5.frozen? ⟨w.heap.size, 0, none⟩ = false := fz_of hI.res 0
    have HWK := Lib.hid hwk
    have HST := Lib.hid hst
    clear hI hK hwk hst
    have hmk := HT.out.marksAt (q5 := q5) (bs := bs) (b3 := b3) (b4 := b4) (p3 := 0) (r := 0) (st0 := s) (pre := []) HB2.out (HI.out.but.mono (by simp)) HK.out
    have HMK := Lib.hid hmk
    clear hmk
    have HBW : Hid (But [B] w W5) := Lib.hid ((HT.out.but.trans HB2.out (by simp)).trans HI.out.but (fun x hx => .inl hx))
    by_cases heq : v5 = v ∧ m5 = m ∧ lo5 = lo ∧ hi5 = hi ∧ sl5 = sl ∧ sh5 = sh
    · obtain ⟨rfl, rfl, rfl, rfl, rfl, rfl⟩ := heq
      have HTG : Hid (tog s = some ⟨⟨v5, m5⟩, ⟨lo5, hi5, sl5, sh5⟩⟩) := Lib.hid (by rw [← HT.out.same]; exact tog_same HST.out)
      have HRN := Lib.hid HI.out.rn
      have HRS := Lib.hid HI.out.res
      clear HI HT HR0
      gi_wp2
      gi_region
      all_goals gi_wp2
      refine leaves_marks (W2.heap.size :: Ds) _ HMK.out.2 (fun D hD => ?_) (fun W' hb' => ?_)
      · have h := HMK.out.1 D hD
        have hne : D ≠ w.heap.size := by omega
        show (W5.setCell ⟨w.heap.size, 0, none⟩ (.bool true)).heap[D]? = _
        rw [← h.2]
        simp [World.setCell, Array.getElem?_modify, Ne.symm hne]
      · have hr' : W'.heap[w.heap.size]? = some (.cells #[.bool true] 4) := by
          refine hb'.heap ?_ (fun hm => by have := (HMK.out.1 _ hm).1; omega)
          show (W5.setCell ⟨w.heap.size, 0, none⟩ (.bool true)).heap[w.heap.size]? = _
          simp [World.setCell, Array.getElem?_modify, HRS.out]
        have hc' : W'.cell? ⟨w.heap.size, 0, none⟩ = some (.bool true) := cl_of hr' 0
        have hw' : WkAt W' B ⟨⟨v5, m5⟩, ⟨lo5, hi5, sl5, sh5⟩⟩ := by
          refine hb'.heap ?_ (fun hm => wk_cells HWK.out (HMK.out.1 _ hm).2 rfl rfl)
          show (W5.setCell ⟨w.heap.size, 0, none⟩ (.bool true)).heap[B]? = _
          have h := HWK.out
          unfold WkAt at h
          rw [← h]
          simp [World.setCell, Array.getElem?_modify, HRN.out]
        refine ⟨.bool true, by simp [results, Try.results64, go_sem, hc'], by rw [HTG.out]; rfl, fun st hst => ?_, ?_⟩
        · rw [HTG.out] at hst; cases hst; exact hw'
        · exact ((HBW.out.setCell (.inr (Nat.le_refl _)) _).drew).trans hb' (fun x hx => .inr (by have := (HMK.out.1 x hx).1; omega))
    · have hne : (⟨⟨v5, m5⟩, ⟨lo5, hi5, sl5, sh5⟩⟩ : Sc) ≠ ⟨⟨v, m⟩, ⟨lo, hi, sl, sh⟩⟩ := fun e => heq (by cases e; exact ⟨rfl, rfl, rfl, rfl, rfl, rfl⟩)
      obtain ⟨hwf5, hdec⟩ := runs_wf HT.out.wf HST.out
      have HND : Hid (TW w B s (W2.heap.size :: Ds) ⟨⟨v5, m5⟩, ⟨lo5, hi5, sl5, sh5⟩⟩ W5.drew ∧ muW B W5.drew < muW B W) := Lib.hid ⟨⟨HWK.out, hwf5, (tog_next HT.out.wf HST.out hne).symm.trans HT.out.same, HBW.out.drew, HI.out.res, HMK.out.1, HMK.out.2⟩, by
        rw [muW_at (show WkAt W5.drew B _ from HWK.out), muW_at HT.out.wk]; exact hdec.resolve_left hne⟩
      have hsp : v5 ≠ v ∨ (v5 = v ∧ m5 ≠ m) ∨ (v5 = v ∧ m5 = m ∧ lo5 ≠ lo) ∨ (v5 = v ∧ m5 = m ∧ lo5 = lo ∧ hi5 ≠ hi) ∨ (v5 = v ∧ m5 = m ∧ lo5 = lo ∧ hi5 = hi ∧ sl5 ≠ sl) ∨ (v5 = v ∧ m5 = m ∧ lo5 = lo ∧ hi5 = hi ∧ sl5 = sl ∧ sh5 ≠ sh) := by omega
      clear heq hne hwf5 hdec HI HT HR0 HST HWK
      rcases hsp with h | ⟨rfl, h⟩ | ⟨rfl, rfl, h⟩ | ⟨rfl, rfl, rfl, h⟩ | ⟨rfl, rfl, rfl, rfl, h⟩ | ⟨rfl, rfl, rfl, rfl, rfl, h⟩
      · have hbe : ((v5 : Int) == (v : Int)) = false := by rw [beq_eq_false_iff_ne]; omega
        clear h
        gi_wp2
        gi_region
        all_goals gi_wp2
        exact ⟨⟨W2.heap.size :: Ds, _, _, _, _, _, _, _, _, _, _, _, _, _, _, _, _, _, _, _, rfl, HND.out.1⟩, HND.out.2⟩
      · have hbe : ((m5 : Int) == (m : Int)) = false := by rw [beq_eq_false_iff_ne]; omega
        clear h
        gi_wp2
        gi_region
        all_goals gi_wp2
        exact ⟨⟨W2.heap.size :: Ds, _, _, _, _, _, _, _, _, _, _, _, _, _, _, _, _, _, _, _, rfl, HND.out.1⟩, HND.out.2⟩
      · have hbe : ((lo5 : Int) == (lo : Int)) = false := by rw [beq_eq_false_iff_ne]; omega
        clear h
        gi_wp2
        gi_region
        all_goals gi_wp2
        exact ⟨⟨W2.heap.size :: Ds, _, _, _, _, _, _, _, _, _, _, _, _, _, _, _, _, _, _, _, rfl, HND.out.1⟩, HND.out.2⟩
      · have hbe : ((hi5 : Int) == (hi : Int)) = false := by rw [beq_eq_false_iff_ne]; omega
        clear h
        gi_wp2
        gi_region
        all_goals gi_wp2
        exact ⟨⟨W2.heap.size :: Ds, _, _, _, _, _, _, _, _, _, _, _, _, _, _, _, _, _, _, _, rfl, HND.out.1⟩, HND.out.2⟩
      · have hbe : ((sl5 : Int) == (sl : Int)) = false := by rw [beq_eq_false_iff_ne]; omega
        clear h
        gi_wp2
        gi_region
        all_goals gi_wp2
        exact ⟨⟨W2.heap.size :: Ds, _, _, _, _, _, _, _, _, _, _, _, _, _, _, _, _, _, _, _, rfl, HND.out.1⟩, HND.out.2⟩
      · have hbe : ((sh5 : Int) == (sh : Int)) = false := by rw [beq_eq_false_iff_ne]; omega
        clear h
        gi_wp2
        gi_region
        all_goals gi_wp2
        exact ⟨⟨W2.heap.size :: Ds, _, _, _, _, _, _, _, _, _, _, _, _, _, _, _, _, _, _, _, rfl, HND.out.1⟩, HND.out.2⟩
  case stop =>
    rintro D c pre W5 rfl ⟨k, hk, rfl⟩ hX hK
    obtain rfl := hX.c
    have hmk := HT.out.marksAt (q5 := q5) (bs := bs) (b3 := b3) (b4 := b4) (p3 := 0) (r := 0) (st0 := s) (pre := []) HB2.out hX.but hK
    have HTG : Hid (tog s = none) := Lib.hid (by rw [← HT.out.same]; exact tog_none (runs_none hX.no 4 hk))
    have HBW : Hid (But [B] w W5) := Lib.hid ((HT.out.but.trans HB2.out (by simp)).trans hX.but (fun x hx => by simp only [List.mem_cons, List.not_mem_nil, or_false] at hx; rcases hx with rfl | rfl <;> simp))
    have HX := Lib.hid hX
    have HMK := Lib.hid hmk
    clear hX hK hmk
    gi_wp2
    refine leaves_marks (W2.heap.size :: Ds) _ HMK.out.2 (fun D hD => (HMK.out.1 D hD).2) (fun W' hb' => ?_)
    have hr' : W'.heap[w.heap.size]? = some (.cells #[.bool false] 4) := hb'.heap HX.out.res (fun hm => by have := (HMK.out.1 _ hm).1; omega)
    have hc' : W'.cell? ⟨w.heap.size, 0, none⟩ = some (.bool false) := cl_of hr' 0
    refine ⟨.bool false, by simp [results, Try.results64, go_sem, hc'], by rw [HTG.out]; rfl, fun st hst => ?_, ?_⟩
    · rw [HTG.out] at hst; cases hst
    · exact HBW.out.trans hb' (fun x hx => .inr (by have := (HMK.out.1 x hx).1; omega))
end Go.Proofs.Ytmbmmcippglfoaa.M
