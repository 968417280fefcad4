/-
  'QueueNumbers': plain: the deeds that the law makes.
-/
import Derived.Test.YtdobileefcidjaaQLivesB
import Derived.Test.YtdobileefcidjaaQueueNil
namespace Go.Proofs.Ytdobileefcidjaa.M
open Go.RowKit Go.Shelf
set_option linter.unusedVariables false
set_option linter.unusedSectionVars false
set_option linter.unusedSimpArgs false
theorem at_cells {w : World} {k : Nat} {cs : Array Value} {t : TypeId} {f : Nat × Nat} (h : w.heap[k]? = some (.cells cs t f)) (j : Nat) : w.cell? ⟨k, j, none⟩ = cs[j]? := by
  unfold World.cell?
  rw [h]
  rfl
theorem sees_cells {w : World} {k : Nat} {cs : Array Value} {t : TypeId} {f : Nat × Nat} (h : w.heap[k]? = some (.cells cs t f)) (xs : List Value) (c : Nat) (hc : xs.length ≤ c) (hx : ∀ (j : Nat) (u : Value), xs[j]? = some u → cs[j]? = some u) : Sees w (.slice (some ⟨k, 0, none⟩) xs.length c) xs :=
  .inr ⟨_, c, rfl, hc, fun j u hj => by rw [add_at, Nat.zero_add, at_cells h]; exact hx j u hj⟩
def v97 : List Value := [.int .u8 97, .int .u8 98, .int .u8 99]
def v100 : List Value := [.int .u8 100, .int .u8 101, .int .u8 102]
def deeds5 (g h : Nat) : List Deed := [⟨2, .slice none 0 0, [], 0⟩, ⟨0, .slice (some ⟨g, 0, none⟩) 3 3, v97, 0⟩, ⟨3, .slice none 0 0, [], 0⟩, ⟨0, .slice (some ⟨h, 0, none⟩) 3 3, v100, 0⟩, ⟨2, .slice none 0 0, [], 0⟩]
theorem sees5 {w : World} {g h D : Nat} {f1 f2 f3 : Nat × Nat} (hg : w.heap[g]? = some (.cells #[.int .u8 97, .int .u8 98, .int .u8 99] 5 f1)) (hh : w.heap[h]? = some (.cells #[.int .u8 100, .int .u8 101, .int .u8 102] 5 f2))
    (hD : w.heap[D]? = some (.cells #[.int .i64 2, .slice none 0 0, .int .u64 0, .int .i64 0, .slice (some ⟨g, 0, none⟩) 3 3, .int .u64 0, .int .i64 3, .slice none 0 0, .int .u64 0, .int .i64 0, .slice (some ⟨h, 0, none⟩) 3 3, .int .u64 0, .int .i64 2, .slice none 0 0, .int .u64 0] 40 f3)) :
    SeesDeeds w (.slice (some ⟨D, 0, none⟩) 5 5) (deeds5 g h) := by
  have s1 : Sees w (.slice (some ⟨g, 0, none⟩) 3 3) v97 := sees_cells hg v97 3 (by decide) (fun j u hj => by
    match j with
    | 0 => exact hj
    | 1 => exact hj
    | 2 => exact hj
    | j + 3 => simp [v97] at hj)
  have s2 : Sees w (.slice (some ⟨h, 0, none⟩) 3 3) v100 := sees_cells hh v100 3 (by decide) (fun j u hj => by
    match j with
    | 0 => exact hj
    | 1 => exact hj
    | 2 => exact hj
    | j + 3 => simp [v100] at hj)
  have b1 : IsBytes v97 := by intro u hu; simp [v97] at hu; rcases hu with rfl | rfl | rfl <;> exact ⟨_, rfl⟩
  have b2 : IsBytes v100 := by intro u hu; simp [v100] at hu; rcases hu with rfl | rfl | rfl <;> exact ⟨_, rfl⟩
  have s0 : Sees w (.slice none 0 0) [] := .inl ⟨rfl, rfl⟩
  have b0 : IsBytes ([] : List Value) := fun u hu => by cases hu
  refine ⟨_, 5, rfl, fun i d hd => ?_⟩
  match i with
  | 0 => cases hd; exact ⟨D, 0, rfl, at_cells hD _, at_cells hD _, at_cells hD _, rfl, s0, b0, by decide⟩
  | 1 => cases hd; exact ⟨D, 0, rfl, at_cells hD _, at_cells hD _, at_cells hD _, rfl, s1, b1, (by decide : v97.length ≤ 140737488351232)⟩
  | 2 => cases hd; exact ⟨D, 0, rfl, at_cells hD _, at_cells hD _, at_cells hD _, rfl, s0, b0, by decide⟩
  | 3 => cases hd; exact ⟨D, 0, rfl, at_cells hD _, at_cells hD _, at_cells hD _, rfl, s2, b2, (by decide : v100.length ≤ 140737488351232)⟩
  | 4 => cases hd; exact ⟨D, 0, rfl, at_cells hD _, at_cells hD _, at_cells hD _, rfl, s0, b0, by decide⟩
  | i + 5 => simp [deeds5] at hd
/-- Deeds in a row of the law's own. -/
structure DeedsIn (w : World) (v : Value) (wr : World) (ds : List Deed) (xs : List Value) : Prop where
  row : wr.ownsRow w.heap.size 40 3 v ds.length xs
  each : ∀ i d, ds[i]? = some d → xs[i * 3]? = some (.int .i64 d.what) ∧ xs[i * 3 + 1]? = some d.sl ∧ xs[i * 3 + 2]? = some (.int .u64 d.flags) ∧ (Lit.int .i64 d.what).wf = true ∧ OwnQ wr 5 d.sl d.bs ∧ IsBytes d.bs ∧ d.bs.length ≤ 140737488351232
theorem ownsRow_but {w w' : World} {B : Nat} {e : TypeId} {sz n : Nat} {v : Value} {xs : List Value} {L : List Nat} (h : w.ownsRow B e sz v n xs) (hb : But L w w') (hn : ∀ b, v.ownBlock = some b → b ∉ L) : w'.ownsRow B e sz v n xs := by
  obtain ⟨h1, h2⟩ := h
  refine ⟨h1, ?_⟩
  rcases h2 with h2 | ⟨g, cap, cur, h3, h4, h5, h6⟩
  · exact .inl h2
  · exact .inr ⟨g, cap, cur, h3, h4, hb.heap h5 (hn g (by rw [h3]; rfl)), h6⟩
theorem ownsRow_tag {w : World} {B : Nat} {e : TypeId} {sz n : Nat} {v : Value} {xs : List Value} (h : w.ownsRow B e sz v n xs) {b : Nat} (hb : v.ownBlock = some b) : B ≤ b ∧ ∃ cur, w.heap[b]? = some (.cells cur e) := by
  rcases h.2 with ⟨h3, _⟩ | ⟨g, cap, cur, h3, h4, h5, h6⟩
  · rw [h3] at hb; cases hb
  · rw [h3] at hb; cases hb; exact ⟨h4, cur, h5⟩
theorem DeedsIn.nil (w wr : World) : DeedsIn w (.slice none 0 0) wr [] [] := ⟨⟨rfl, .inl ⟨rfl, rfl⟩⟩, fun i d h => by simp at h⟩
theorem DeedsIn.new {w wr w' : World} {v : Value} {ds : List Deed} {xs : List Value} (h : DeedsIn w v wr ds xs) (hb : But [] wr w') : DeedsIn w v w' ds xs :=
  ⟨ownsRow_but h.row hb (by simp), fun i d hd => by
    obtain ⟨h1, h2, h3, h4, h5, h6⟩ := h.each i d hd
    exact ⟨h1, h2, h3, h4, h5.but hb (by simp), h6⟩⟩
theorem DeedsIn.sees {w wr : World} {v : Value} {ds : List Deed} {xs : List Value} (h : DeedsIn w v wr ds xs) : SeesDeeds wr v ds := by
  obtain ⟨⟨h1, h2⟩, h3⟩ := h
  rcases h2 with ⟨h2, h0⟩ | ⟨g, cap, cur, h2, h4, h5, h6, h7, h8, h9⟩
  · obtain rfl : ds = [] := List.eq_nil_of_length_eq_zero h0
    exact ⟨none, 0, h2, fun i d hd => by simp at hd⟩
  · refine ⟨some ⟨g, 0, none⟩, cap, h2, fun i d hd => ?_⟩
    obtain ⟨e1, e2, e3, e4, e5, e6, e7⟩ := h3 i d hd
    have hc : ∀ j u, xs[j]? = some u → wr.cell? ⟨g, j, none⟩ = some u := fun j u hj => by
      rw [at_cells h5]
      rw [← h9, List.getElem?_take] at hj
      split at hj
      · simpa using hj
      · cases hj
    exact ⟨g, 0, rfl, by rw [Nat.zero_add]; exact hc _ _ e1, by rw [Nat.zero_add]; exact hc _ _ e2, by rw [Nat.zero_add]; exact hc _ _ e3, e4, e5.sees, e6, e7⟩
/-- Three more. -/
theorem DeedsIn.more {w wr w0 w' : World} {v v' : Value} {ds : List Deed} {xs : List Value} (h : DeedsIn w v w0 ds xs) (hbw : But [] w w0) {d1 d2 d3 : Deed} {news : List Value} (hn : news = [.int .i64 d1.what, d1.sl, .int .u64 d1.flags, .int .i64 d2.what, d2.sl, .int .u64 d2.flags, .int .i64 d3.what, d3.sl, .int .u64 d3.flags])
    (hd : ∀ d ∈ [d1, d2, d3], (Lit.int .i64 d.what).wf = true ∧ OwnQ w0 5 d.sl d.bs ∧ IsBytes d.bs ∧ d.bs.length ≤ 140737488351232) (hown : w'.ownsRow w.heap.size 40 3 v' (ds.length + 3) (xs ++ news)) (hg : w0.grownBy w' v.ownBlock) :
    DeedsIn w v' w' (ds ++ [d1, d2, d3]) (xs ++ news) ∧ But [] w w' := by
  have hb : But v.ownBlock.toList w0 w' := (But.refl _ _).grown hg (fun k hk => .inl (by rw [hk]; simp))
  have hq : ∀ {s : Value} {bs : List Value}, OwnQ w0 5 s bs → OwnQ w' 5 s bs := fun ho => ho.but hb (fun b hb' hm => by
    obtain ⟨_, cur, hc⟩ := ownsRow_tag h.row (b := b) (by simpa using hm)
    obtain ⟨cur2, hc2⟩ := ho.tag b hb'
    rw [hc] at hc2
    simp only [Option.some.injEq, Obj.cells.injEq] at hc2
    exact absurd hc2.2.1 (by decide))
  have hxl : xs.length = ds.length * 3 := h.row.1
  refine ⟨⟨by rw [List.length_append]; exact hown, fun i d hi => ?_⟩, hbw.trans hb (fun x hx => .inr (ownsRow_tag h.row (b := x) (by simpa using hx)).1)⟩
  by_cases hil : i < ds.length
  · rw [List.getElem?_append_left hil] at hi
    obtain ⟨h1, h2, h3, h4, h5, h6⟩ := h.each i d hi
    exact ⟨by rw [List.getElem?_append_left (by omega)]; exact h1, by rw [List.getElem?_append_left (by omega)]; exact h2, by rw [List.getElem?_append_left (by omega)]; exact h3, h4, hq h5, h6⟩
  · rw [List.getElem?_append_right (by omega)] at hi
    obtain ⟨g4, g5, g6, g7⟩ := hd d (List.mem_of_getElem? hi)
    refine ⟨?_, ?_, ?_, g4, hq g5, g6, g7⟩
    all_goals
      rw [List.getElem?_append_right (by omega), hxl, hn]
      match hj : i - ds.length, hi with
      | 0, hi =>
        cases hi
        first
          | (rw [show i * 3 - ds.length * 3 = 0 by omega]; rfl)
          | (rw [show i * 3 + 1 - ds.length * 3 = 1 by omega]; rfl)
          | (rw [show i * 3 + 2 - ds.length * 3 = 2 by omega]; rfl)
      | 1, hi =>
        cases hi
        first
          | (rw [show i * 3 - ds.length * 3 = 3 by omega]; rfl)
          | (rw [show i * 3 + 1 - ds.length * 3 = 4 by omega]; rfl)
          | (rw [show i * 3 + 2 - ds.length * 3 = 5 by omega]; rfl)
      | 2, hi =>
        cases hi
        first
          | (rw [show i * 3 - ds.length * 3 = 6 by omega]; rfl)
          | (rw [show i * 3 + 1 - ds.length * 3 = 7 by omega]; rfl)
          | (rw [show i * 3 + 2 - ds.length * 3 = 8 by omega]; rfl)
      | j + 3, hi => simp at hi
theorem OwnQ.fresh_row {w : World} {k n c : Nat} {cs : Array Value} (h : w.heap[k]? = some (.cells cs 5 (0, 0))) (hc : cs.size = c) (hn : n ≤ c) (hm : c ≤ maxLen) : OwnQ w 5 (.slice (some ⟨k, 0, none⟩) n c) (cs.toList.take n) := by
  refine .inr ⟨k, 0, c, cs, by rw [List.length_take, Array.length_toList, Nat.min_eq_left (by omega)], h, by rw [List.length_take, Array.length_toList]; omega, hm, by omega, fun j u hj => ?_⟩
  rw [List.getElem?_take] at hj
  split at hj
  · rw [Nat.zero_add]; simpa using hj
  · cases hj
def newsOf (g h p : Nat) (flags what fl2 : Int) : List Value := [.int .i64 0, .slice (some ⟨g, 0, none⟩) p 3, .int .u64 flags, .int .i64 what, .slice none 0 0, .int .u64 0, .int .i64 0, .slice (some ⟨h, 0, none⟩) 2 2, .int .u64 fl2]
theorem row_on3 {w W : World} {lv : Value} {ds : List Deed} {xs : List Value} {n : Nat} (h : DeedsIn w lv W ds xs) (hn : ds.length = n) (o1 o2 o3 : Obj) : (((W.alloc o1).alloc o2).alloc o3).ownsRow w.heap.size 40 3 lv n xs := by
  rw [← hn]
  exact (h.new ((((But.refl [] W).alloc o1).alloc o2).alloc o3)).row
theorem news_on3 (W : World) (o1 o2 : Obj) (cs : List Value) (t : TypeId) : ∀ (j : Nat) (u : Value), cs[j]? = some u → (((W.alloc o1).alloc o2).alloc (.cells cs.toArray t)).cell? ((⟨W.heap.size + 1 + 1, 0, none⟩ : Addr).add j) = some u := fun j u hj => by
  rw [add_at, Nat.zero_add, at_cells (al_eq _ _ _ (by rw [size_alloc, size_alloc]))]
  simpa using hj
theorem row_form {w : World} {B : Nat} {e : TypeId} {sz n : Nat} {v : Value} {xs : List Value} (h : w.ownsRow B e sz v n xs) : ∃ a c, v = .slice a n c := by
  rcases h.2 with ⟨h, h0⟩ | ⟨g, cap, cur, h, _⟩
  · exact ⟨none, 0, by rw [h, h0]⟩
  · exact ⟨_, _, h⟩
theorem more3 {w W w' : World} {lv v' : Value} {ds : List Deed} {xs : List Value} {n : Nat} (h : DeedsIn w lv W ds xs) (hb : But [] w W) (hn : ds.length = n) (c1 c2 what flags fl2 : Int) (p : Nat) (hp : p ≤ 3) (hw : (Lit.int .i64 what).wf = true)
    (hown : w'.ownsRow w.heap.size 40 3 v' (n + 3) (xs ++ newsOf W.heap.size (W.heap.size + 1) p flags what fl2))
    (hg : (((W.alloc (.cells #[.int .u8 c1, .int .u8 120, .int .u8 121] 5)).alloc (.cells #[.int .u8 c2, .int .u8 122] 5)).alloc (.cells (newsOf W.heap.size (W.heap.size + 1) p flags what fl2).toArray 40)).grownBy w' lv.ownBlock) :
    ∃ a c, v' = .slice a (n + 3) c ∧ ∃ ds', DeedsIn w v' w' ds' (xs ++ newsOf W.heap.size (W.heap.size + 1) p flags what fl2) ∧ ds'.length = n + 3 ∧ But [] w w' := by
  obtain ⟨a, c, e⟩ := row_form hown
  subst hn
  have hbw : But [] W (((W.alloc (.cells #[.int .u8 c1, .int .u8 120, .int .u8 121] 5)).alloc (.cells #[.int .u8 c2, .int .u8 122] 5)).alloc (.cells (newsOf W.heap.size (W.heap.size + 1) p flags what fl2).toArray 40)) := ((((But.refl [] W).alloc _).alloc _).alloc _)
  have hk := DeedsIn.more (wr := W) (h.new hbw) (hb.trans hbw (by simp)) (d1 := ⟨0, .slice (some ⟨W.heap.size, 0, none⟩) p 3, ([.int .u8 c1, .int .u8 120, .int .u8 121] : List Value).take p, flags⟩) (d2 := ⟨what, .slice none 0 0, [], 0⟩) (d3 := ⟨0, .slice (some ⟨W.heap.size + 1, 0, none⟩) 2 2, ([.int .u8 c2, .int .u8 122] : List Value).take 2, fl2⟩) (news := newsOf W.heap.size (W.heap.size + 1) p flags what fl2) rfl (fun d hd => by
    simp only [List.mem_cons, List.not_mem_nil, or_false] at hd
    rcases hd with rfl | rfl | rfl
    · exact ⟨rfl, OwnQ.fresh_row (al_keep (al_keep (al_at _ _) _) _) rfl hp (by decide), fun u hu => by have := List.mem_of_mem_take hu; simp at this; rcases this with rfl | rfl | rfl <;> exact ⟨_, rfl⟩, by simp only [List.length_take, List.length_cons, List.length_nil]; omega⟩
    · exact ⟨hw, .inl ⟨rfl, rfl⟩, (fun u hu => by cases hu), (by simp)⟩
    · exact ⟨rfl, OwnQ.fresh_row (al_keep (al_eq _ _ _ (by rw [size_alloc])) _) rfl (by decide) (by decide), fun u hu => by have := List.mem_of_mem_take hu; simp at this; rcases this with rfl | rfl <;> exact ⟨_, rfl⟩, by simp only [List.length_take, List.length_cons, List.length_nil]; omega⟩) hown hg
  exact ⟨a, c, e, _, hk.1, by rw [List.length_append]; rfl, hk.2⟩
end Go.Proofs.Ytdobileefcidjaa.M
