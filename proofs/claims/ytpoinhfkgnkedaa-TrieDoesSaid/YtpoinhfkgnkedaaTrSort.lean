/-
  trie.Keys: the library's sort over the collected rows.
-/
import Derived.Test.YtpoinhfkgnkedaaTrCmpK
namespace Go.Proofs.Ytpoinhfkgnkedaa.M
open Go.RowKit Go.Shelf Go.Sort
set_option linter.unusedVariables false
set_option linter.unusedSectionVars false
set_option linter.unusedSimpArgs false
theorem u8_tri (a b : UInt8) : (a < b ∧ ¬ b < a ∧ a ≠ b) ∨ (b < a ∧ ¬ a < b ∧ a ≠ b) ∨ (a = b ∧ ¬ a < b ∧ ¬ b < a) := by
  simp only [UInt8.lt_iff_toNat_lt, ne_eq, ← UInt8.toNat_inj]
  omega
theorem cb_neg : ∀ a b : List UInt8, Lib.compareBytes b a = - Lib.compareBytes a b
  | [], [] => rfl
  | [], _ :: _ => rfl
  | _ :: _, [] => rfl
  | a :: xs, b :: ys => by
    unfold Lib.compareBytes
    rcases u8_tri a b with ⟨h1, h2, _⟩ | ⟨h1, h2, _⟩ | ⟨rfl, h2, _⟩
    · rw [if_pos h1, if_neg h2, if_pos h1]; rfl
    · rw [if_pos h1, if_neg h2, if_pos h1]
    · rw [if_neg h2, if_neg h2, if_neg h2, if_neg h2]; exact cb_neg xs ys
theorem cb_trans : ∀ a b c : List UInt8, Lib.compareBytes a b ≤ 0 → Lib.compareBytes b c ≤ 0 → Lib.compareBytes a c ≤ 0
  | [], _, [], _, _ => by simp [Lib.compareBytes]
  | [], _, _ :: _, _, _ => by simp [Lib.compareBytes]
  | _ :: _, [], _, h, _ => by simp [Lib.compareBytes] at h
  | _ :: _, _ :: _, [], _, h => by simp [Lib.compareBytes] at h
  | a :: xs, b :: ys, c :: zs, h1, h2 => by
    unfold Lib.compareBytes at h1 h2 ⊢
    rcases u8_tri a b with ⟨p1, p2, p3⟩ | ⟨p1, p2, p3⟩ | ⟨rfl, p2, p3⟩
    · rcases u8_tri b c with ⟨q1, q2, q3⟩ | ⟨q1, q2, q3⟩ | ⟨rfl, q2, q3⟩
      · have : a < c := by simp only [UInt8.lt_iff_toNat_lt] at *; omega
        rw [if_pos this]; decide
      · rw [if_neg q2, if_pos q1] at h2; exact absurd h2 (by decide)
      · rw [if_pos p1]; decide
    · rw [if_neg p2, if_pos p1] at h1; exact absurd h1 (by decide)
    · rw [if_neg p2, if_neg p3] at h1
      rcases u8_tri a c with ⟨q1, q2, q3⟩ | ⟨q1, q2, q3⟩ | ⟨rfl, q2, q3⟩
      · rw [if_pos q1]; decide
      · rw [if_neg q2, if_pos q1] at h2; exact absurd h2 (by decide)
      · rw [if_neg q2, if_neg q3] at h2 ⊢
        exact cb_trans xs ys zs h1 h2
theorem cb_zero : ∀ a b : List UInt8, Lib.compareBytes a b = 0 → a = b
  | [], [], _ => rfl
  | [], _ :: _, h => by simp [Lib.compareBytes] at h
  | _ :: _, [], h => by simp [Lib.compareBytes] at h
  | a :: xs, b :: ys, h => by
    unfold Lib.compareBytes at h
    rcases u8_tri a b with ⟨p1, p2, p3⟩ | ⟨p1, p2, p3⟩ | ⟨rfl, p2, p3⟩
    · rw [if_pos p1] at h; exact absurd h (by decide)
    · rw [if_neg p2, if_pos p1] at h; exact absurd h (by decide)
    · rw [if_neg p2, if_neg p3] at h
      rw [cb_zero xs ys h]
theorem ci_cases (x y : Int) : (x < y ∧ cmpI x y = -1) ∨ (y < x ∧ cmpI x y = 1) ∨ (x = y ∧ cmpI x y = 0) := by
  unfold cmpI
  by_cases h : x < y
  · exact .inl ⟨h, by rw [if_pos h]⟩
  · by_cases h2 : y < x
    · exact .inr (.inl ⟨h2, by rw [if_neg h, if_pos h2]⟩)
    · exact .inr (.inr ⟨by omega, by rw [if_neg h, if_neg h2]⟩)
theorem cfK_neg (a b : List Int) : cfK b a = - cfK a b := by
  unfold cfK
  rcases ci_cases (leV (a.take 4)) (leV (b.take 4)) with ⟨h, e⟩ | ⟨h, e⟩ | ⟨h, e⟩ <;>
  rcases ci_cases (leV (b.take 4)) (leV (a.take 4)) with ⟨h', e'⟩ | ⟨h', e'⟩ | ⟨h', e'⟩ <;>
  first
    | (exfalso; omega)
    | (rw [e, e']; simp; done)
    | (rw [e, e', if_pos rfl, if_pos rfl]; exact cb_neg _ _)
theorem cfK_trans (a b c : List Int) (h1 : cfK a b ≤ 0) (h2 : cfK b c ≤ 0) : cfK a c ≤ 0 := by
  unfold cfK at *
  rcases ci_cases (leV (a.take 4)) (leV (b.take 4)) with ⟨h, e⟩ | ⟨h, e⟩ | ⟨h, e⟩ <;>
  rcases ci_cases (leV (b.take 4)) (leV (c.take 4)) with ⟨h', e'⟩ | ⟨h', e'⟩ | ⟨h', e'⟩ <;>
  rcases ci_cases (leV (a.take 4)) (leV (c.take 4)) with ⟨h'', e''⟩ | ⟨h'', e''⟩ | ⟨h'', e''⟩ <;>
  rw [e] at h1 <;> rw [e'] at h2 <;> rw [e''] <;>
  first
    | (exfalso; omega)
    | (simp; done)
    | (simp at h1; done)
    | (simp at h2; done)
    | (rw [if_pos rfl] at h1 h2 ⊢; exact cb_trans _ _ _ h1 h2)
/-- A comparison of the kind gives a strict weak order. -/
theorem swo_of {α : Type} (cf : α → α → Int) (hn : ∀ a b, cf b a = - cf a b) (ht : ∀ a b c, cf a b ≤ 0 → cf b c ≤ 0 → cf a c ≤ 0) : SWO (ltOf cf) where
  irrefl x := by
    have := hn x x
    simp only [ltOf, decide_eq_false_iff_not]; omega
  trans x y z h1 h2 := by
    simp only [ltOf, decide_eq_true_eq] at *
    have h3 := ht x y z (by omega) (by omega)
    by_cases h4 : cf x z = 0
    · have h5 := hn x z
      have h6 := ht z x y (by omega) (by omega)
      have h7 := hn z y
      omega
    · omega
  ntrans x y z h1 h2 := by
    simp only [ltOf, decide_eq_false_iff_not] at *
    have h3 := hn x y
    have h4 := hn y z
    have h5 := ht z y x (by omega) (by omega)
    have h6 := hn x z
    omega
/-- A row that may be compared. -/
def KeyAt (w : World) (blk : Nat) (x : Value × List Int) : Prop := ∃ a c, x.1 = .slice (some a) x.2.length c ∧ Sees w x.1 (u8s x.2) ∧ ByteL x.2 ∧ 4 ≤ x.2.length ∧ a.block ≠ blk
abbrev GKey (w : World) (blk : Nat) : Type := { x : Value × List Int // KeyAt w blk x }
def encG (w : World) (blk : Nat) (x : GKey w blk) : Value := x.1.1
def cfG (w : World) (blk : Nat) (x y : GKey w blk) : Int := cfK x.1.2 y.1.2
theorem sort_but {α : Type} [Inhabited α] (enc : α → Value) (w : World) (blk off m : Nat) (dk : Array α) (os : Array Obj) : But [blk] w (sortWorld enc w blk off m dk os) := by
  refine ⟨rfl, rfl, rfl, by simp [sortWorld, grow, putRow, mapBlock, Sort.ahead], fun k hk hn => ?_⟩
  simp only [List.mem_singleton] at hn
  simp only [sortWorld, grow, putRow, mapBlock, Sort.ahead]
  rw [Array.getElem?_append_left (by simpa using hk), Array.getElem?_modify, if_neg (fun e => hn e.symm)]
theorem oneG (w : World) (blk : Nat) : OneCell (encG w blk) := fun x => by
  obtain ⟨a, c, h, _⟩ := x.2
  show x.1.1.oneCell' = true
  rw [h]
  rfl
theorem cmpG (w : World) (blk off size : Nat) [Inhabited (GKey w blk)] : CmpLays1 Try.prog 42 #[] (encG w blk) (cfG w blk) blk off size w := by
  intro m os dk hs x y
  obtain ⟨⟨v, a⟩, a1, c1, hv, h1, h2, h3, h4⟩ := x
  obtain ⟨⟨u, b⟩, b1, c2, hu, g1, g2, g3, g4⟩ := y
  dsimp only at hv hu h1 h2 h3 g1 g2 g3
  subst hv hu
  have hb := sort_but (encG w blk) w blk off m dk os
  have := cmpK_c a1 b1 c1 c2 a b (sortWorld (encG w blk) w blk off m dk os) (h1.but hb (fun k hk => by cases hk; simpa using h4)) (g1.but hb (fun k hk => by cases hk; simpa using g4)) h2 g2 h3 g3
  exact this
theorem sortWorld_heap {α : Type} [Inhabited α] (enc : α → Value) {w : World} {blk : Nat} (off m : Nat) (dk : Array α) (os : Array Obj) {cur : Array Value} {t : TypeId} {fr : Nat × Nat} (h : w.heap[blk]? = some (.cells cur t fr)) :
    (sortWorld enc w blk off m dk os).heap[blk]? = some (.cells (putCells enc off dk cur) t fr) := by
  have hlt := lt_of h
  simp only [sortWorld, grow, putRow, mapBlock, Sort.ahead]
  rw [Array.getElem?_append_left (by simpa using hlt), Array.getElem?_modify, if_pos rfl, h]
  rfl
theorem putCells_in {α : Type} [Inhabited α] (enc : α → Value) (off : Nat) (d : Array α) (c : Array Value) {j : Nat} (hj : j < d.size) (hc : off + d.size ≤ c.size) : (putCells enc off d c)[off + j]? = some (enc d[j]!) := by
  unfold putCells
  rw [Array.getElem?_mapIdx, Array.getElem?_eq_getElem (by omega)]
  simp only [Option.map_some]
  rw [if_pos (by omega), Nat.add_sub_cancel_left]
set_option maxRecDepth 100000 in
theorem sort_c (w : World) (blk off cap : Nat) (vals : List Value) (kss : List (List Int)) (hl : vals.length = kss.length) (h0 : 0 < vals.length) (hmax : vals.length ≤ 1000000) (hown : OwnQ w 26 (.slice (some ⟨blk, off, none⟩) vals.length cap) vals)
    (hk : ∀ x ∈ vals.zip kss, KeyAt w blk x) :
    Calls Try.prog 41 #[.slice (some ⟨blk, off, none⟩) vals.length cap, .func (.func 42) #[] #[]] w fun e w' => e = .returned (.tuple #[]) ∧ ∃ ps : List (Value × List Int), ps.Perm (vals.zip kss) ∧ OwnQ w' 26 (.slice (some ⟨blk, off, none⟩) vals.length cap) (ps.map (·.1)) ∧ ps.Pairwise (fun x y => 0 ≤ cfK y.2 x.2) ∧ But [blk] w w' := by
  obtain ⟨D, hD⟩ : ∃ D : List (GKey w blk), D = (vals.zip kss).pmap (fun x h => (⟨x, h⟩ : GKey w blk)) hk := ⟨_, rfl⟩
  have hmap : D.map (·.1) = vals.zip kss := by
    rw [hD, List.map_pmap]
    simp
  have hDl : D.length = vals.length := by
    have := congrArg List.length hmap
    simp at this
    omega
  have hin : Inhabited (GKey w blk) := ⟨D[0]'(by omega)⟩
  have eg : ∀ args w, (callFunc 42 args).run Try.prog w = .ok (.enter 42 args) w := enters_of Try.func42 (by kernel_rfl) rfl
  obtain ⟨g, o, cp, cur, hv, hg, h2, h3, h4, hc⟩ : ∃ g o cp cur, (Value.slice (some ⟨blk, off, none⟩) vals.length cap) = .slice (some ⟨g, o, none⟩) vals.length cp ∧ w.heap[g]? = some (.cells cur 26 (0, 0)) ∧ vals.length ≤ cp ∧ cp ≤ maxLen ∧ o + cp ≤ cur.size ∧ ∀ j u, vals[j]? = some u → cur[o + j]? = some u := by
    rcases hown with ⟨h, _⟩ | h
    · cases h
    · exact h
  simp only [Value.slice.injEq, Option.some.injEq, Addr.mk.injEq] at hv
  obtain ⟨⟨rfl, rfl, -⟩, -, rfl⟩ := hv
  have hencs : ∀ j, j < D.toArray.size → encG w blk D.toArray[j]! = vals[j]! := fun j hj => by
    have hj' : j < D.length := by simpa using hj
    have h5 := congrArg (fun l => l[j]?) hmap
    simp only [List.getElem?_map, List.getElem?_zip_eq_some] at h5
    have hjv : j < vals.length := by omega
    have hjk : j < kss.length := by omega
    have e1 : D.toArray[j]! = D[j] := by simp [hj']
    rw [e1]
    rw [List.getElem?_eq_getElem hj', List.getElem?_eq_getElem (by simp; omega)] at h5
    simp only [Option.map_some, Option.some.injEq, List.getElem_zip] at h5
    show (D[j]).1.1 = _
    rw [h5]
    simp [hjv]
  have hH : Holds (encG w blk) w blk off D.toArray := fun j hj => by
    have hj' : j < vals.length := by rw [← hDl]; simpa using hj
    refine ⟨?_, fz_of hg _⟩
    rw [hencs j hj, cl_of hg, hc j _ (List.getElem?_eq_getElem hj')]
    simp [hj']
  have hS := Any.slices_SortFunc sortL (encG w blk) (oneG w blk) (cfG w blk) (swo_of _ (fun x y => cfK_neg _ _) (fun x y z => cfK_trans _ _ _)) 42 #[] blk off cap D.toArray w eg (cmpG w blk off _) hH (lt_of hg) (by simp; omega)
  have hsz : D.toArray.size = vals.length := by simpa using hDl
  rw [hsz] at hS
  refine Calls.mono hS ?_
  rintro e w' ⟨rfl, d', n, os, ⟨hp1, _, hp2⟩, hs, rfl⟩
  have hd' : d'.size = vals.length := by rw [hp1]; exact hsz
  have hperm : d'.toList.Perm D := by
    have e1 : (d'.extract 0 vals.length).toList = d'.toList := by rw [← hd', Array.extract_size]
    have e2 : (D.toArray.extract 0 vals.length).toList = D := by rw [← hsz, Array.extract_size]
    rw [e1, e2] at hp2
    exact hp2
  refine ⟨rfl, d'.toList.map (·.1), ?_, ?_, ?_, sort_but _ _ _ _ _ _ _⟩
  · rw [← hmap]; exact hperm.map _
  · refine .inr ⟨blk, off, cap, _, ?_, sortWorld_heap _ _ _ _ _ hg, ?_, h3, ?_, fun j u hu => ?_⟩
    · simp [hd']
    · simpa [hd'] using h2
    · simpa [putCells] using h4
    · have hj : j < d'.size := by
        have := (List.getElem?_eq_some_iff.1 hu).1
        simpa using this
      rw [putCells_in _ _ _ _ hj (by omega)]
      rw [List.map_map, List.getElem?_map, Array.getElem?_toList, Array.getElem?_eq_getElem hj] at hu
      simp only [Option.map_some, Option.some.injEq] at hu
      rw [← hu]
      simp [hj, encG]
  · rw [List.pairwise_map, List.pairwise_iff_getElem]
    intro i j hi hj hij
    have hi' : i < d'.size := by simpa using hi
    have hj' : j < d'.size := by simpa using hj
    have := hs i j (Nat.zero_le _) hij (by omega)
    simp only [ltOf, decide_eq_false_iff_not] at this
    have e1 : d'[i]! = d'[i] := by simp [hi']
    have e2 : d'[j]! = d'[j] := by simp [hj']
    rw [e1, e2] at this
    simp only [Array.getElem_toList]
    exact Int.not_lt.1 this
end Go.Proofs.Ytpoinhfkgnkedaa.M
