/-
  trie.many: how many bits a key says it has.
-/
import Derived.Test.YtpoinhfkgnkedaaTBack
namespace Go.Proofs.Ytpoinhfkgnkedaa.M
open Go.RowKit Go.Shelf
set_option linter.unusedVariables false
set_option linter.unusedSectionVars false
set_option linter.unusedSimpArgs false
attribute [local go_sem] Oper.semAt_some
theorem ofInt_i64 (a : Nat) (ha : a < 18446744073709551616) : (BitVec.ofInt 64 (a : Int)).toNat = a := by
  rw [BitVec.ofInt_natCast, BitVec.toNat_ofNat]; exact Nat.mod_eq_of_lt (by omega)
theorem join64 {n c : Int} (h1 : 0 ≤ n) (h2 : n < 4294967296) (h3 : 0 ≤ c) (h4 : c ≤ 255) : bits .or .i64 (n * 256) c = n * 256 + c := by
  obtain ⟨N, rfl⟩ := Int.eq_ofNat_of_zero_le h1
  obtain ⟨C, rfl⟩ := Int.eq_ofNat_of_zero_le h3
  rw [show ((N : Int) * 256) = ((N * 256 : Nat) : Int) from by omega]
  show IntKind.i64.wrap ((BitVec.ofInt 64 ((N * 256 : Nat) : Int) ||| BitVec.ofInt 64 (C : Int)).toNat : Int) = _
  rw [BitVec.toNat_or, ofInt_i64 _ (by omega), ofInt_i64 _ (by omega), nat_join 8 (N * 256) C (by omega) (by omega), IntKind.wrap_i64]
  omega
/-- The number that bytes are, the lowest first. -/
def leV (bs : List Int) : Int := bs.foldr (fun x n => n * 256 + x) 0
def valR (pre : List (Int × Int)) : Int := (pre.map Prod.snd).foldl (fun n x => n * 256 + x) 0
theorem valR_all {bs : List Int} {pre : List (Int × Int)} (h : BAll bs pre) : valR pre = leV bs := by
  unfold valR leV
  rw [h, List.foldl_reverse]
theorem valR_more (pre : List (Int × Int)) (x : Int × Int) : valR (pre ++ [x]) = valR pre * 256 + x.2 := by simp [valR]
theorem fold_bound : ∀ (l : List Int) (n : Int) (k : Nat), (∀ x ∈ l, 0 ≤ x ∧ x ≤ 255) → 0 ≤ n → n < 256 ^ k → 0 ≤ l.foldl (fun n x => n * 256 + x) n ∧ l.foldl (fun n x => n * 256 + x) n < 256 ^ (k + l.length)
  | [], n, k, _, h0, h1 => ⟨h0, h1⟩
  | x :: l, n, k, h, h0, h1 => by
    have hx := h x List.mem_cons_self
    have hp : (256 : Int) ^ (k + 1) = 256 ^ k * 256 := Int.pow_succ _ _
    have h2 := fold_bound l (n * 256 + x) (k + 1) (fun y hy => h y (List.mem_cons_of_mem _ hy)) (by omega) (by omega)
    rw [List.foldl_cons, List.length_cons, show k + (l.length + 1) = k + 1 + l.length from by omega]
    exact h2
theorem valR_bound {pre : List (Int × Int)} (h : ∀ x ∈ pre, 0 ≤ x.2 ∧ x.2 ≤ 255) (hl : pre.length < 4) : 0 ≤ valR pre ∧ valR pre < 16777216 := by
  have h1 := fold_bound (pre.map Prod.snd) 0 0 (by simp only [List.mem_map]; rintro x ⟨y, hy, rfl⟩; exact h y hy) (by omega) (by decide)
  rw [List.length_map] at h1
  refine ⟨h1.1, Int.lt_of_lt_of_le h1.2 ?_⟩
  rw [Nat.zero_add]
  have hk : ∀ k : Nat, k < 4 → (256 : Int) ^ k ≤ 16777216 := by decide
  exact hk _ hl
theorem heap_far {w w' : World} {k : Nat} {cs : Array Value} {t : TypeId} {f : Nat × Nat} {L : List Nat} (h : w.heap[k]? = some (.cells cs t f)) (hb : But L w w') {B : Nat} (hL : ∀ x ∈ L, B ≤ x ∧ ∃ o, w.heap[x]? = some o ∧ o.isCells = false) : w'.heap[k]? = some (.cells cs t f) :=
  hb.heap h (fun hm => by
    obtain ⟨_, o, ho, hoc⟩ := hL k hm
    rw [h] at ho
    cases ho
    cases hoc)
theorem add_zero (ad : Addr) : ad.add 0 = ad := by simp [Addr.add]
theorem Sees.head {w : World} {ad : Addr} {c n : Nat} {l : List Int} (h : Sees w (.slice (some ad) l.length c) (u8s l)) (hn : n ≤ l.length) : Sees w (.slice (some ad) n c) (u8s (l.take n)) := by
  rcases h with ⟨h, _⟩ | ⟨ad', c', h, hc, hx⟩
  · cases h
  · simp only [Value.slice.injEq, Option.some.injEq] at h
    obtain ⟨rfl, hl, rfl⟩ := h
    rw [u8s_len] at hc
    refine .inr ⟨ad, c, by rw [u8s_len, List.length_take, Nat.min_eq_left hn], by rw [u8s_len, List.length_take]; omega, fun j u hj => hx j u ?_⟩
    rw [u8s, List.map_take, List.getElem?_take] at hj
    split at hj
    · exact hj
    · cases hj
theorem Sees.len {w : World} {ad : Addr} {c n : Nat} {xs : List Value} (h : Sees w (.slice (some ad) n c) xs) : n ≤ c ∧ xs.length = n := by
  rcases h with ⟨h, _⟩ | ⟨ad', c', h, hc, hx⟩
  · cases h
  · simp only [Value.slice.injEq, Option.some.injEq] at h
    obtain ⟨rfl, rfl, rfl⟩ := h
    exact ⟨hc, rfl⟩
theorem Sees.low {w : World} {v : Value} {xs : List Value} (h : Sees w v xs) (hx : 0 < xs.length) : ∀ b, v.ownBlock = some b → b < w.heap.size := by
  rcases h with ⟨rfl, h⟩ | ⟨ad, c, rfl, hc, h⟩
  · subst h; simp at hx
  · intro b hb
    have h0 := h 0 (xs[0]) (List.getElem?_eq_getElem hx)
    have := cell_lt h0
    rw [block_of_add] at this
    cases hb
    exact this
/-- What stands between two rounds. -/
structure WhI (w : World) (B : Nat) (pre : List (Int × Int)) (W : World) : Prop where
  box : W.heap[B]? = some (.cells #[.int .i64 (valR pre)] 3)
  ok : ∀ x ∈ pre, 0 ≤ x.2 ∧ x.2 ≤ 255
  but : But [] w W
theorem WhI.abides (w : World) (B : Nat) (hB : w.heap.size ≤ B) : Abides (B + 1) (WhI w B) := Abides.of_but fun pre V W L h hb hL =>
  ⟨heap_far h.box hb hL, h.ok, h.but.trans hb (fun x hx => .inr (by have := (hL x hx).1; omega))⟩
theorem WhI.abides2 (w : World) (B : Nat) (hB : w.heap.size ≤ B) : Abides (B + 2) (WhI w B) := (WhI.abides w B hB).mono (by omega)
theorem anyA_abides (B : Nat) : Abides B AnyA := ⟨fun _ _ _ h _ => h, fun _ _ _ _ _ h _ _ _ => h⟩
theorem WhI.more {w W : World} {B : Nat} {pre : List (Int × Int)} {x : Int × Int} (hB : w.heap.size ≤ B) (h : WhI w B pre W) (hx : AnyA x W) :
    KeepsOthers W (W.setCell ⟨B, 0, none⟩ (.int .i64 (valR pre * 256 + x.2))) ∧ (∀ ok : Nat → Prop, ¬ ok B → KeepIn ok W (W.setCell ⟨B, 0, none⟩ (.int .i64 (valR pre * 256 + x.2)))) ∧ WhI w B (pre ++ [x]) (W.setCell ⟨B, 0, none⟩ (.int .i64 (valR pre * 256 + x.2))) := by
  have hs : But [B] W (W.setCell ⟨B, 0, none⟩ (.int .i64 (valR pre * 256 + x.2))) := (But.refl _ _).setCell (.inl (by simp)) _
  refine ⟨keepsOthers_of_but hs (fun y hy => ?_), fun ok hok => KeepIn.of_but hs (fun y hy => by simp at hy; subst hy; exact hok), ?_, fun y hy => ?_, h.but.trans hs (fun y hy => .inr (by simp at hy; omega))⟩
  · simp only [List.mem_singleton] at hy
    subst hy
    exact ⟨_, _, _, h.box⟩
  · rw [valR_more]
    simp [World.setCell, Array.getElem?_modify, h.box]
  · rcases List.mem_append.1 hy with hy | hy
    · exact h.ok y hy
    · simp only [List.mem_singleton] at hy
      subst hy
      exact hx
set_option maxRecDepth 100000 in
set_option maxHeartbeats 4000000 in
theorem many_w (ad : Addr) (c0 : Nat) (ks : List Int) (w : World) (hs0 : Sees w (.slice (some ad) ks.length c0) (u8s ks)) (hr0 : ByteL ks) (h4 : 4 ≤ ks.length) :
    CallsIn Fence.wide 3 Try.prog 45 #[.slice (some ad) ks.length c0] w fun e w' => e = .returned (.int .i64 (leV (ks.take 4))) ∧ But [] w w' := by
  have hs : Sees w (.slice (some ad) 4 c0) (u8s (ks.take 4)) := hs0.head h4
  have hc4 := hs.len.1
  have hr : ∀ x ∈ ks.take 4, 0 ≤ x ∧ x ≤ 255 := fun x hx => hr0 x (List.mem_of_mem_take hx)
  have hl : (ks.take 4).length = 4 := by rw [List.length_take]; omega
  have hsn := hs.low (by rw [u8s_len]; omega)
  generalize ks.take 4 = bs at *
  have h1 : 1 ≤ 3 := by decide
  obtain ⟨w1, hw1⟩ : ∃ w1, w1 = (w.alloc (.cells #[.int .i64 0] 3)).alloc (.cells #[.slice (some ad) 4 c0] 26) := ⟨_, rfl⟩
  have hb1 : But [] w w1 := by rw [hw1]; exact ((But.refl [] w).alloc _).alloc _
  have hz1 : w1.heap.size = w.heap.size + 2 := by rw [hw1, size_alloc, size_alloc]
  have g0 : w1.heap[w.heap.size]? = some (.cells #[.int .i64 0] 3) := by rw [hw1]; exact al_keep (al_at w _) _
  have g1 : w1.heap[w.heap.size + 1]? = some (.cells #[.slice (some ad) 4 c0] 26) := by rw [hw1]; exact al_eq _ _ _ (by rw [size_alloc])
  have HW := Lib.hid hw1
  have HS := Lib.hid (back_seq 2 (by omega) (w.heap.size + 1) (fun b => b ≠ w.heap.size ∧ b < w.heap.size + 2) (.slice (some ad) 4 c0) bs w1 g1 (hs.but hb1 (by simp)) hr (by omega) ⟨by omega, by omega⟩ (fun b hb => by have := hsn b hb; omega))
  have HI0 : Hid (WhI w w.heap.size [] w1) := Lib.hid ⟨g0, by simp, hb1⟩
  have HZ := Lib.hid hz1
  have hca : ¬ (c0 = 0) := by omega
  have ha0 := add_zero ad
  clear hw1 hb1 g0 g1 hs hr hsn hz1 hs0 hr0
  refine callsIn_of_wp_marks Try.func45 rfl trivial ?_ rfl
  simp only [Try.ntmps45, List.size_toArray, List.length_cons, List.length_nil, Nat.reduceAdd, Nat.reduceSub, Array.replicate_succ, Array.replicate_zero, List.push_toArray, List.append_toArray, List.nil_append, List.cons_append]
  gi_wp2
  refine ⟨trivial, ?_⟩
  refine (callsIn_wide.2 (back_c _ _ _ _)).mono ?_
  rintro e w2 ⟨rfl, rfl⟩
  gi_wp2
  rw [← HW.out]
  refine wpIn_rangeFunc_but rfl h1 (gf := 75) (lb := #[.pointer (some ⟨w.heap.size + 1, 0, none⟩)]) rfl trivial (enters_of Try.func75 (by kernel_rfl) rfl) HS.out
    (fun h k => h.trans k) (fun hz hb => KeepIn.of_but hb (by simp)) (fun V l o o' hl hV ho => KeepIn.of_but (but_putObj o' hV) (by have := HZ.out; simp only [List.mem_singleton]; rintro x rfl ⟨h1, h2⟩; omega)) (anyA_abides _) (But.refl _ _) (fun _ => rfl)
    (WhI w w.heap.size) (fun _ _ _ => False) (HZ.out ▸ WhI.abides2 w w.heap.size (Nat.le_refl _)) (fun _ => Abides.none _) HI0.out
    (fun x a' _ => a' = { tmps := #[.slice (some ad) ks.length c0, undef, .int .i64 0, .pointer (some ⟨w.heap.size, 0, none⟩), undef, .int .u8 x.2, .slice (some ad) ks.length c0, .slice (some ad) 4 c0, .func (.func 75) #[] #[.pointer (some ⟨w.heap.size + 1, 0, none⟩)], .int .i64 x.1, .int .u8 x.2, undef, undef, undef, undef, undef, undef], defers := [] })
    (fun a' => ⟨fun _ _ _ h _ => h, fun _ _ _ _ _ h _ _ _ => h⟩) ?assign ?body ?done ?stop ?throw
  case assign =>
    intro l pre x W K _ _ _ hK
    simp only [encB]
    gi_wp2
    exact hK _ _ (But.refl _ _) rfl
  case body =>
    rintro l pre x a' W hx0 hI hx _ hlt
    subst hx0
    have hc : W.cell? ⟨w.heap.size, 0, none⟩ = some (.int .i64 (valR pre)) := cl_of hI.box 0
    have hf : W.frozen? ⟨w.heap.size, 0, none⟩ = false := by (unfold World.frozen?; rw [hI.box]; simp)
    have hv := valR_bound hI.ok (by omega)
    obtain ⟨hv0, hv1⟩ := hv
    obtain ⟨i, c⟩ := x
    obtain ⟨hx0, hx1⟩ := id hx
    simp only at hx0 hx1
    have HRES := Lib.hid (hI.more (Nat.le_refl _) hx)
    have hj : bits .or .i64 (valR pre * 256) c = valR pre * 256 + c := join64 hv0 (by omega) hx0 (by omega)
    have hw8 : IntKind.i64.wrap (valR pre * 256) = valR pre * 256 := by rw [IntKind.wrap_i64]; omega
    have hwc : IntKind.i64.wrap c = c := by rw [IntKind.wrap_i64]; omega
    have hw8' : wrap64 (valR pre * 256) = valR pre * 256 := by rw [wrap64]; omega
    have hwc' : wrap64 c = c := by rw [wrap64]; omega
    clear hI hx
    gi_wp2
    exact ⟨HRES.out.1, HRES.out.2.1 _ (fun h => h.1 rfl), HRES.out.2.2⟩
  case done =>
    rintro D ys W rfl hS hI hK
    have hv : valR ys = leV bs := valR_all hS
    have hc : W.cell? ⟨w.heap.size, 0, none⟩ = some (.int .i64 (leV bs)) := by rw [← hv]; exact cl_of hI.box 0
    have hb2 : But [w1.heap.size] W (W.putObj w1.heap.size (.deferred none)) := but_putObj _ hK
    have HEND := Lib.hid (show But [] w (W.putObj w1.heap.size (.deferred none)) from hI.but.trans hb2 (fun x hx => .inr (by have := HZ.out; simp at hx; omega)))
    clear hI hS
    gi_wp2
    refine ⟨by simp, .inl ⟨_, _, rfl, run_takeDeferred hK, ?_⟩⟩
    refine ⟨_, results_tmp rfl _ _ _, ?_⟩
    exact ⟨by first | rfl | (rw [IntKind.wrap_i32]; rfl) | (simp [IntKind.wrap_i32, wrap32, Array.getD]), HEND.out⟩
  case stop =>
    rintro D c pre W _ _ h _
    exact h.elim
  case throw =>
    rintro D pre chain W _ h _ _
    exact h.elim
end Go.Proofs.Ytpoinhfkgnkedaa.M
