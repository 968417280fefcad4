/-
  'ArrayNumbers': plain: what its literals make; the deeds in a row of the law's own; key, of any number.
-/
import Derived.Test.YtkgoblpddjpcnaaGreatLivesA
import Derived.Test.YtkgoblpddjpcnaaGreatFlow
import Derived.Test.YtkgoblpddjpcnaaGreatRow
import Derived.Lib.SlBytesConst
import Derived.Laws.AppendOwn
namespace Go.Proofs.YtkgoblpddjpcnaaGreat.M
open Go.RowKit Go.Shelf
set_option linter.unusedVariables false
set_option linter.unusedSectionVars false
set_option linter.unusedSimpArgs false
/-- All cells are as they were; old blocks are so wholly (of a newer one its mark may turn). -/
structure RK (n0 : Nat) (w w' : World) : Prop where
  os : w'.os = w.os
  tape : w'.tape = w.tape
  output : w'.output = w.output
  size : w.heap.size ≤ w'.heap.size
  old : ∀ k, k < n0 → k < w.heap.size → w'.heap[k]? = w.heap[k]?
  cells : ∀ (k : Nat) (C : Array Value) (t : TypeId) (f : Nat × Nat), w.heap[k]? = some (.cells C t f) → ∃ f', w'.heap[k]? = some (.cells C t f')
  reads : ∀ (p : Addr) (v : Value), w.cell? p = some v → w'.cell? p = some v
theorem RK.refl (n0 : Nat) (w : World) : RK n0 w w := ⟨rfl, rfl, rfl, Nat.le_refl _, fun _ _ _ => rfl, fun k C t f h => ⟨f, h⟩, fun _ _ h => h⟩
theorem RK.trans {n0 : Nat} {a b c : World} (h : RK n0 a b) (k : RK n0 b c) : RK n0 a c :=
  ⟨k.os.trans h.os, k.tape.trans h.tape, k.output.trans h.output, Nat.le_trans h.size k.size, fun i hi ha => (k.old i hi (Nat.lt_of_lt_of_le ha h.size)).trans (h.old i hi ha), fun i C t f hi => by
    obtain ⟨f1, h1⟩ := h.cells i C t f hi
    exact k.cells i C t f1 h1, fun p v hp => k.reads p v (h.reads p v hp)⟩
theorem RK.of_but {n0 : Nat} {a b : World} (h : But [] a b) : RK n0 a b :=
  ⟨h.os, h.tape, h.output, h.size, fun k _ hk => h.block k hk (by simp), fun k C t f hk => ⟨f, h.heap hk (by simp)⟩, fun p v hp => cell_but h hp (by simp)⟩
theorem RK.draw (n0 : Nat) (w : World) : RK n0 w { w with drawn := w.drawn + 1 } := RK.of_but (⟨rfl, rfl, rfl, Nat.le_refl _, fun _ _ _ => rfl⟩ : But [] w { w with drawn := w.drawn + 1 })
theorem RK.but {a b : World} (h : RK a.heap.size a b) : But [] a b := ⟨h.os, h.tape, h.output, h.size, fun k hk _ => h.old k hk hk⟩
theorem Sees.rk {n0 : Nat} {w w' : World} {s : Value} {xs : List Value} (h : Sees w s xs) (hb : RK n0 w w') : Sees w' s xs := by
  rcases h with h | ⟨ad, c, rfl, hc, hx⟩
  · exact .inl h
  · exact .inr ⟨ad, c, rfl, hc, fun j u hj => hb.reads _ _ (hx j u hj)⟩
/-- Are a block's cells bytes? -/
def U8 (w : World) (b : Nat) : Prop := ∃ cur f, w.heap[b]? = some (.cells cur 5 f)
theorem U8.rk {n0 : Nat} {w w' : World} {b : Nat} (h : U8 w b) (hb : RK n0 w w') : U8 w' b := by
  obtain ⟨cur, f, h⟩ := h
  obtain ⟨f', h'⟩ := hb.cells _ _ _ _ h
  exact ⟨cur, f', h'⟩
theorem U8.but {w w' : World} {L : List Nat} {b : Nat} (h : U8 w b) (hb : But L w w') (hn : b ∉ L) : U8 w' b := by
  obtain ⟨cur, f, h⟩ := h
  exact ⟨cur, f, hb.heap h hn⟩
def NumG (k : IntKind) (v : Value) : Prop := ∃ n, v = .int k n ∧ (Lit.int k n).wf = true
def NatG (m : Nat) (v : Value) : Prop := ∃ n : Nat, v = .int .i64 n ∧ n ≤ m
def KeyG (v : Value) (w : World) : Prop := ∃ g ks, v = .slice (some ⟨g, 0, none⟩) 4 4 ∧ ks.length = 4 ∧ InB ks ∧ Sees w v (u8s ks) ∧ U8 w g
def ByG (v : Value) (w : World) : Prop := ∃ a c ks, v = .slice a (u8s ks).length c ∧ ks.length ≤ 6 ∧ InB ks ∧ Sees w v (u8s ks) ∧ ∀ b, v.ownBlock = some b → U8 w b
def RawG (v : Value) (w : World) (n0 : Nat) (ks : List Int) : Prop := ∃ g f, v = .slice (some ⟨g, 0, none⟩) ks.length ks.length ∧ n0 ≤ g ∧ w.heap[g]? = some (.cells (u8s ks).toArray 5 f)
structure DeedT (w : World) (d : DeedA) : Prop where
  ok : DeedOk w d
  k : ∀ b, d.key.ownBlock = some b → U8 w b
  b : ∀ b, d.b.ownBlock = some b → U8 w b
def DG (v : Value) (w : World) : Prop := ∃ d : DeedA, v = .agg #[.int .i64 d.what, d.key, d.b, .int .u64 d.flags, .int .i64 d.place, .int .i64 d.off] ∧ DeedT w d
section
variable {n0 : Nat} {w w' : World}
theorem KeyG.rk {v : Value} (h : KeyG v w) (hb : RK n0 w w') : KeyG v w' := by
  obtain ⟨g, ks, h1, h2, h3, h4, h5⟩ := h
  exact ⟨g, ks, h1, h2, h3, h4.rk hb, h5.rk hb⟩
theorem ByG.rk {v : Value} (h : ByG v w) (hb : RK n0 w w') : ByG v w' := by
  obtain ⟨a, c, ks, h1, h2, h3, h4, h5⟩ := h
  exact ⟨a, c, ks, h1, h2, h3, h4.rk hb, fun b hb' => (h5 b hb').rk hb⟩
theorem RawG.rk {v : Value} {ks : List Int} {m : Nat} (h : RawG v w m ks) (hb : RK n0 w w') : RawG v w' m ks := by
  obtain ⟨g, f, h1, h2, h3⟩ := h
  obtain ⟨f', h4⟩ := hb.cells _ _ _ _ h3
  exact ⟨g, f', h1, h2, h4⟩
theorem DeedT.rk {d : DeedA} (h : DeedT w d) (hb : RK n0 w w') : DeedT w' d :=
  ⟨⟨h.ok.key.rk hb, h.ok.keyb, h.ok.keyl, h.ok.b.rk hb, h.ok.bb, h.ok.bl, h.ok.what, h.ok.flags, h.ok.place, h.ok.off⟩, fun b h' => (h.k b h').rk hb, fun b h' => (h.b b h').rk hb⟩
theorem DG.rk {v : Value} (h : DG v w) (hb : RK n0 w w') : DG v w' := by
  obtain ⟨d, h1, h2⟩ := h
  exact ⟨d, h1, h2.rk hb⟩
theorem KeyG.by {v : Value} (h : KeyG v w) : ByG v w := by
  obtain ⟨g, ks, h1, h2, h3, h4, h5⟩ := h
  exact ⟨_, 4, ks, by rw [h1, u8s_len, h2], by omega, h3, h4, fun b hb => by rw [h1] at hb; cases hb; exact h5⟩
theorem ByG.nil : ByG (.slice none 0 0) w := ⟨none, 0, [], rfl, by simp, (fun z hz => by cases hz), .inl ⟨rfl, rfl⟩, (fun b hb => by cases hb)⟩
theorem inb_take {ks : List Int} (h : InB ks) (n : Nat) : InB (ks.take n) := fun z hz => h z (List.mem_of_mem_take hz)
theorem sees_take {a : Option Addr} {n c m : Nat} {xs : List Value} (h : Sees w (.slice a n c) xs) (hm : m ≤ xs.length) : Sees w (.slice a m c) (xs.take m) := by
  rcases h with ⟨e, rfl⟩ | ⟨ad, c', e, hc, hx⟩
  · simp only [Value.slice.injEq] at e
    obtain ⟨rfl, rfl, rfl⟩ := e
    obtain rfl : m = 0 := by simpa using hm
    exact .inl ⟨rfl, rfl⟩
  · simp only [Value.slice.injEq] at e
    obtain ⟨rfl, rfl, rfl⟩ := e
    exact .inr ⟨ad, c, by simp [Nat.min_eq_left hm], by simp; omega, fun j u hj => hx j u (by
      rw [List.getElem?_take] at hj
      split at hj
      · exact hj
      · cases hj)⟩
/-- The first ones of a key's bytes. -/
theorem KeyG.cut {g m : Nat} (h : KeyG (.slice (some ⟨g, 0, none⟩) 4 4) w) (hm : m ≤ 4) : ByG (.slice (some ⟨g, 0, none⟩) m 4) w := by
  obtain ⟨g', ks, h1, h2, h3, h4, h5⟩ := h
  cases h1
  have h6 := sees_take (m := m) h4 (by rw [u8s_len]; omega)
  have h7 : (u8s ks).take m = u8s (ks.take m) := by simp [u8s]
  rw [h7] at h6
  have e : (ks.take m).length = m := by rw [List.length_take, h2]; omega
  exact ⟨_, 4, ks.take m, by rw [u8s_len, e], by omega, inb_take h3 m, h6, fun b hb => by cases hb; exact h5⟩
theorem sees_raw {g : Nat} {ks : List Int} {f : Nat × Nat} (h : w.heap[g]? = some (.cells (u8s ks).toArray 5 f)) {c : Nat} (hc : ks.length ≤ c) : Sees w (.slice (some ⟨g, 0, none⟩) (u8s ks).length c) (u8s ks) :=
  .inr ⟨⟨g, 0, none⟩, c, rfl, by rw [u8s_len]; exact hc, fun j u hj => by
    rw [add_at, Nat.zero_add]
    unfold World.cell?
    rw [h]
    simpa using hj⟩
theorem RawG.by {v : Value} {ks : List Int} {m : Nat} (h : RawG v w m ks) (hl : ks.length ≤ 6) (hb : InB ks) : ByG v w := by
  obtain ⟨g, f, rfl, h2, h3⟩ := h
  have h4 := sees_raw h3 (Nat.le_refl ks.length)
  rw [u8s_len] at h4
  exact ⟨_, _, ks, by rw [u8s_len], hl, hb, h4, fun b hb => by cases hb; exact ⟨_, _, h3⟩⟩
theorem deedG {t fl pl of : Int} {s u : Value} (hs : ByG s w) (hu : ByG u w) (h1 : (Lit.int .i64 t).wf = true) (h2 : (Lit.int .u64 fl).wf = true) (h3 : (Lit.int .i64 pl).wf = true) (h4 : (Lit.int .i64 of).wf = true) : DG (.agg #[.int .i64 t, s, u, .int .u64 fl, .int .i64 pl, .int .i64 of]) w := by
  obtain ⟨a, c, ks, e1, l1, i1, s1, b1⟩ := hs
  obtain ⟨a', c', bs, e2, l2, i2, s2, b2⟩ := hu
  exact ⟨⟨t, s, u, ks, bs, fl, pl, of⟩, rfl, ⟨s1, i1, by show ks.length ≤ _; omega, s2, i2, by show bs.length ≤ _; omega, h1, h2, h3, h4⟩, b1, b2⟩
end
/-- '[]byte("..")' of a constant, wherever its row lies. -/
theorem run_convert_mark {P : Program} (w : World) (t e : TypeId) (C : Array Value) (f : Nat × Nat) (g n c : Nat) (hg : w.heap[g]? = some (.cells C e f)) (ht : P.underlying t = some (.slice e)) (he : P.underlying e = some (.int .u8)) :
    (convert t t (.slice (some ⟨g, 0, none⟩) n c)).run P w = .ok (.slice (some ⟨g, 0, none⟩) n c) (w.freeze ⟨g, C.size, none⟩ 1) := by
  have hsh : w.shape? g = some (e, C.size) := by
    unfold World.shape?
    rw [hg]
  simp [convert, run_underlying ht, run_underlying he, markStringish, hsh]
theorem freeze_heap {w : World} {g : Nat} {C : Array Value} {e : TypeId} {f : Nat × Nat} (hg : w.heap[g]? = some (.cells C e f)) (m : Nat) : ∃ f', (w.freeze ⟨g, m, none⟩ 1).heap[g]? = some (.cells C e f') ∧ ∀ k, k ≠ g → (w.freeze ⟨g, m, none⟩ 1).heap[k]? = w.heap[k]? := by
  unfold World.freeze
  rw [if_neg (by decide)]
  refine ⟨_, by simp only [Array.getElem?_modify, if_true, hg, Option.map_some]; rfl, fun k hk => ?_⟩
  simp only [Array.getElem?_modify]
  rw [if_neg (Ne.symm hk)]
theorem rk_freeze {n0 : Nat} {w : World} {g : Nat} {C : Array Value} {e : TypeId} {f : Nat × Nat} (hg : w.heap[g]? = some (.cells C e f)) (hn : n0 ≤ g) (m : Nat) : RK n0 w (w.freeze ⟨g, m, none⟩ 1) := by
  obtain ⟨f', h1, h2⟩ := freeze_heap hg m
  have hfz : w.freeze ⟨g, m, none⟩ 1 = { w with heap := (w.freeze ⟨g, m, none⟩ 1).heap } := by
    unfold World.freeze
    rw [if_neg (by decide)]
  have hsz : (w.freeze ⟨g, m, none⟩ 1).heap.size = w.heap.size := by
    unfold World.freeze
    rw [if_neg (by decide)]
    simp
  refine ⟨by rw [hfz], by rw [hfz], by rw [hfz], by omega, fun k hk _ => h2 k (by omega), fun k C' t' f'' hk => ?_, fun p v hp => ?_⟩
  · by_cases e : k = g
    · subst e
      rw [hg] at hk
      cases hk
      exact ⟨f', h1⟩
    · exact ⟨f'', by rw [h2 k e]; exact hk⟩
  · by_cases e : p.block = g
    · unfold World.cell? at hp ⊢
      rw [e, hg] at hp
      rw [e, h1]
      exact hp
    · rw [World.cell?_of_block (w := w) (h2 _ e)]
      exact hp
/-- Deeds in a row of the law's own. -/
structure RowD (base : Nat) (v : Value) (wr : World) (ds : List DeedA) : Prop where
  row : wr.ownsRow base 39 6 v ds.length (ds.flatMap DeedA.cells)
  each : ∀ d ∈ ds, DeedT wr d
theorem flat_cells : ∀ (ds : List DeedA) (i j : Nat) (d : DeedA), ds[i]? = some d → j < 6 → (ds.flatMap DeedA.cells)[i * 6 + j]? = d.cells[j]?
  | [], i, j, d, h, _ => by simp at h
  | x :: ds, 0, j, d, h, hj => by
    simp only [List.getElem?_cons_zero, Option.some.injEq] at h
    subst h
    rw [List.flatMap_cons, Nat.zero_mul, Nat.zero_add, List.getElem?_append_left (by simpa [DeedA.cells] using hj)]
  | x :: ds, i + 1, j, d, h, hj => by
    simp only [List.getElem?_cons_succ] at h
    have hl : x.cells.length = 6 := rfl
    rw [List.flatMap_cons, List.getElem?_append_right (by omega), show (i + 1) * 6 + j - x.cells.length = i * 6 + j by omega]
    exact flat_cells ds i j d h hj
theorem flat_lenD (ds : List DeedA) : (ds.flatMap DeedA.cells).length = ds.length * 6 := by
  induction ds with
  | nil => rfl
  | cons x ds ih => rw [List.flatMap_cons, List.length_append, ih, List.length_cons]; have : x.cells.length = 6 := rfl; omega
theorem ownsRow_but {w w' : World} {B : Nat} {e : TypeId} {sz n : Nat} {v : Value} {xs : List Value} {L : List Nat} (h : w.ownsRow B e sz v n xs) (hb : But L w w') (hn : ∀ b, v.ownBlock = some b → b ∉ L) : w'.ownsRow B e sz v n xs := by
  obtain ⟨h1, h2⟩ := h
  refine ⟨h1, ?_⟩
  rcases h2 with h2 | ⟨g, cap, cur, h3, h4, h5, h6⟩
  · exact .inl h2
  · exact .inr ⟨g, cap, cur, h3, h4, hb.heap h5 (hn g (by rw [h3]; rfl)), h6⟩
theorem ownsRow_tag {w : World} {B : Nat} {e : TypeId} {sz n : Nat} {v : Value} {xs : List Value} (h : w.ownsRow B e sz v n xs) {b : Nat} (hb : v.ownBlock = some b) : B ≤ b ∧ ∃ cur, w.heap[b]? = some (.cells cur e) := by
  rcases h.2 with ⟨h3, _⟩ | ⟨g, cap, cur, h3, h4, h5, h6⟩
  · rw [h3] at hb; cases hb
  · rw [h3] at hb; cases hb; exact ⟨h4, cur, h5⟩
theorem row_form {w : World} {B : Nat} {e : TypeId} {sz n : Nat} {v : Value} {xs : List Value} (h : w.ownsRow B e sz v n xs) : ∃ a c, v = .slice a n c := by
  rcases h.2 with ⟨h, h0⟩ | ⟨g, cap, cur, h, _⟩
  · exact ⟨none, 0, by rw [h, h0]⟩
  · exact ⟨_, _, h⟩
theorem RowD.nil (base : Nat) (wr : World) : RowD base (.slice none 0 0) wr [] := ⟨⟨rfl, .inl ⟨rfl, rfl⟩⟩, fun d h => by cases h⟩
theorem DeedT.but {w w' : World} {L : List Nat} {d : DeedA} (h : DeedT w d) (hb : But L w w') (hn : ∀ b ∈ L, ¬ U8 w b) : DeedT w' d := by
  have k1 : ∀ b, d.key.ownBlock = some b → b ∉ L := fun b h1 hm => hn b hm (h.k b h1)
  have k2 : ∀ b, d.b.ownBlock = some b → b ∉ L := fun b h1 hm => hn b hm (h.b b h1)
  exact ⟨⟨h.ok.key.but hb k1, h.ok.keyb, h.ok.keyl, h.ok.b.but hb k2, h.ok.bb, h.ok.bl, h.ok.what, h.ok.flags, h.ok.place, h.ok.off⟩, fun b h1 => (h.k b h1).but hb (k1 b h1), fun b h1 => (h.b b h1).but hb (k2 b h1)⟩
theorem RowD.new {base : Nat} {wr w' : World} {v : Value} {ds : List DeedA} (h : RowD base v wr ds) (hb : But [] wr w') : RowD base v w' ds :=
  ⟨ownsRow_but h.row hb (by simp), fun d hd => (h.each d hd).but hb (by simp)⟩
theorem RowD.sees {base : Nat} {wr : World} {v : Value} {ds : List DeedA} (h : RowD base v wr ds) : SeesDeeds wr v ds := by
  obtain ⟨⟨h1, h2⟩, h3⟩ := h
  rcases h2 with ⟨h2, h0⟩ | ⟨g, cap, cur, h2, h4, h5, h6, h7, h8, h9⟩
  · obtain rfl : ds = [] := List.eq_nil_of_length_eq_zero h0
    exact ⟨none, 0, h2, fun i d hd => by simp at hd⟩
  · refine ⟨some ⟨g, 0, none⟩, cap, h2, fun i d hd => ⟨g, 0, rfl, fun j v hj => ?_, (h3 d (List.mem_of_getElem? hd)).ok⟩⟩
    have hj6 : j < 6 := (List.getElem?_eq_some_iff.1 hj).1
    rw [← flat_cells ds i j d hd hj6, ← h9, List.getElem?_take] at hj
    split at hj
    · unfold World.cell?
      rw [h5, Nat.zero_add]
      simpa using hj
    · cases hj
/-- More of them. -/
theorem RowD.more {base : Nat} {wr w' : World} {v v' : Value} {ds news : List DeedA} (h : RowD base v wr ds) (hd : ∀ d ∈ news, DeedT wr d) (hown : w'.ownsRow base 39 6 v' (ds.length + news.length) (ds.flatMap DeedA.cells ++ news.flatMap DeedA.cells)) (hg : wr.grownBy w' v.ownBlock) :
    RowD base v' w' (ds ++ news) ∧ But v.ownBlock.toList wr w' ∧ ∀ b ∈ v.ownBlock.toList, base ≤ b := by
  have hb : But v.ownBlock.toList wr w' := (But.refl _ _).grown hg (fun k hk => .inl (by rw [hk]; simp))
  have hno : ∀ b ∈ v.ownBlock.toList, ¬ U8 wr b := fun b hm => by
    rintro ⟨cur2, f, hc2⟩
    obtain ⟨_, cur, hc⟩ := ownsRow_tag h.row (b := b) (by simpa using hm)
    rw [hc] at hc2
    simp only [Option.some.injEq, Obj.cells.injEq] at hc2
    exact absurd hc2.2.1 (by decide)
  refine ⟨⟨by rw [List.length_append, List.flatMap_append]; exact hown, fun d hm => ?_⟩, hb, fun b hm => (ownsRow_tag h.row (b := b) (by simpa using hm)).1⟩
  rcases List.mem_append.1 hm with hm | hm
  · exact (h.each d hm).but hb hno
  · exact (hd d hm).but hb hno
set_option maxHeartbeats 1000000 in
theorem key_any (z : Int) (w : World) (h1 : -9223372036854775808 ≤ z) (h2 : z ≤ 9223372036854775807) : Calls Tryz.prog 13 #[.int .i64 z] w fun e w' => ∃ v, e = .returned v ∧ KeyG v w' ∧ But [] w w' := by
  have H1 := Lib.hid h1
  have H2 := Lib.hid h2
  clear h1 h2
  go_enter Tryz.func13, Tryz.ntmps13
  go_wp2
  go_ret
  have hs := sees_raw (w := w.alloc (.cells (u8s [z % 256, z / 256 % 256, z / 65536 % 256, z / 16777216 % 256]).toArray 5)) (g := w.heap.size) (ks := [z % 256, z / 256 % 256, z / 65536 % 256, z / 16777216 % 256]) (al_at _ _) (c := 4) (by simp)
  refine ⟨_, rfl, ⟨w.heap.size, [z % 256, z / 256 % 256, z / 65536 % 256, z / 16777216 % 256], rfl, rfl, ?_, hs, ⟨_, _, al_at _ _⟩⟩, (But.refl [] w).alloc _⟩
  intro x hx
  simp only [List.mem_cons, List.not_mem_nil, or_false] at hx
  rcases hx with rfl | rfl | rfl | rfl <;> omega
/-- The first ones of six bytes. -/
theorem cut_six {w : World} {g m : Nat} {f : Nat × Nat} (h : w.heap[g]? = some (.cells #[.int .u8 97, .int .u8 98, .int .u8 99, .int .u8 100, .int .u8 101, .int .u8 102] 5 f)) (hm : m ≤ 6) : ByG (.slice (some ⟨g, 0, none⟩) m 6) w := by
  have hb : InB [97, 98, 99, 100, 101, 102] := by intro z hz; simp only [List.mem_cons, List.not_mem_nil, or_false] at hz; omega
  have h1 := sees_raw (w := w) (g := g) (f := f) (ks := [97, 98, 99, 100, 101, 102]) h (c := 6) (by simp)
  have h6 := sees_take (m := m) h1 (by rw [u8s_len]; exact hm)
  have h7 : (u8s [97, 98, 99, 100, 101, 102]).take m = u8s (([97, 98, 99, 100, 101, 102] : List Int).take m) := by simp only [u8s, List.map_take]
  rw [h7] at h6
  have e : (([97, 98, 99, 100, 101, 102] : List Int).take m).length = m := by rw [List.length_take]; show min m 6 = m; omega
  exact ⟨_, 6, ([97, 98, 99, 100, 101, 102] : List Int).take m, by rw [u8s_len, e], by omega, inb_take hb m, h6, fun b hb => by cases hb; exact ⟨_, _, h⟩⟩
def nums11 : Array Value := #[.int .i64 (-9223372036854775808), .int .i64 (-1), .int .i64 0, .int .i64 1, .int .i64 2, .int .i64 3, .int .i64 4, .int .i64 5, .int .i64 1024, .int .i64 1025, .int .i64 9223372036854775807]
theorem nums_int (n : Nat) (h : n < 11) : ∃ x : Int, nums11[n]? = some (.int .i64 x) ∧ (Lit.int .i64 x).wf = true := by
  match n with
  | 0 => exact ⟨_, rfl, rfl⟩
  | 1 => exact ⟨_, rfl, rfl⟩
  | 2 => exact ⟨_, rfl, rfl⟩
  | 3 => exact ⟨_, rfl, rfl⟩
  | 4 => exact ⟨_, rfl, rfl⟩
  | 5 => exact ⟨_, rfl, rfl⟩
  | 6 => exact ⟨_, rfl, rfl⟩
  | 7 => exact ⟨_, rfl, rfl⟩
  | 8 => exact ⟨_, rfl, rfl⟩
  | 9 => exact ⟨_, rfl, rfl⟩
  | 10 => exact ⟨_, rfl, rfl⟩
  | n + 11 => omega
theorem at_cells {w : World} {k : Nat} {cs : Array Value} {t : TypeId} {f : Nat × Nat} (h : w.heap[k]? = some (.cells cs t f)) (j : Nat) : w.cell? ⟨k, j, none⟩ = cs[j]? := by
  unfold World.cell?
  rw [h]
  rfl
theorem wf_small (x : Int) (h1 : 0 ≤ x) (h2 : x ≤ 255) : (Lit.int .u8 x).wf = true := by
  simp only [Lit.wf, Bool.and_eq_true, decide_eq_true_eq]
  exact ⟨h1, h2⟩
end Go.Proofs.YtkgoblpddjpcnaaGreat.M
