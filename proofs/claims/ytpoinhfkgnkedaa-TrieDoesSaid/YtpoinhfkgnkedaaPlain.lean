/-
  trie.plain: a key whose bits that do not count are 0.
-/
import Derived.Test.YtpoinhfkgnkedaaGA
import Derived.Test.YtpoinhfkgnkedaaCopyS
import Derived.Test.YtpoinhfkgnkedaaCopyB
import Derived.Test.YtpoinhfkgnkedaaTailIn
namespace Go.Proofs.Ytpoinhfkgnkedaa.M
open Go.RowKit Go.Shelf
set_option linter.unusedVariables false
set_option linter.unusedSectionVars false
set_option linter.unusedSimpArgs false
attribute [local go_sem] Oper.semAt_some
def zeros (n : Nat) : List Value := (madeCells #[.int .u8 0] n).toList
theorem zeros_len (n : Nat) : (zeros n).length = n := by simp [zeros, madeCells]
theorem zeros_u8 (n : Nat) : zeros n = u8s (List.replicate n 0) := by
  simp only [zeros, madeCells, u8s, List.map_replicate]
  refine List.ext_getElem? (fun i => ?_)
  simp [List.getElem?_replicate, Nat.mod_one]
  split <;> simp_all
def putBit (o : List Int) (k : Nat) (x : Int) : List Int := o.set (4 + k / 8) (bits .or .u8 (o.getD (4 + k / 8) 0) (x * 2 ^ (7 - k % 8)))
def putAll : List Int → Nat → List Int → List Int
  | o, _, [] => o
  | o, k, x :: l => putAll (putBit o k x) (k + 1) l
theorem putAll_snoc : ∀ (l o : List Int) (k : Nat) (x : Int), putAll o k (l ++ [x]) = putBit (putAll o k l) (k + l.length) x
  | [], o, k, x => rfl
  | y :: l, o, k, x => by
    show putAll (putBit o k y) (k + 1) (l ++ [x]) = _
    rw [putAll_snoc l]
    simp only [putAll, List.length_cons]
    rw [show k + 1 + l.length = k + (l.length + 1) from by omega]
theorem putAll_len : ∀ (l o : List Int) (k : Nat), (putAll o k l).length = o.length
  | [], o, k => rfl
  | y :: l, o, k => by
    show (putAll (putBit o k y) (k + 1) l).length = _
    rw [putAll_len l]
    simp [putBit]
def headK (ks : List Int) : List Int := ks.take 4 ++ List.replicate (ks.length - 4) 0
def plainK (ks : List Int) : List Int := putAll (headK ks) 0 (kbits ks)
theorem headK_len {ks : List Int} (h : 4 ≤ ks.length) : (headK ks).length = ks.length := by
  simp [headK]; omega
theorem headK_splice {ks : List Int} (h4 : 4 ≤ ks.length) : splice (zeros ks.length) 0 (u8s (ks.take 4)) = u8s (headK ks) := by
  unfold splice headK
  rw [zeros_u8, u8s_len, List.length_take, Nat.min_eq_left h4]
  simp [u8s]
theorem u8s_one (l : List Int) : ∀ u ∈ u8s l, u.oneCell' = true := by
  intro u hu
  simp only [u8s, List.mem_map] at hu
  obtain ⟨x, _, rfl⟩ := hu
  rfl
theorem wp_region_tail9 {P : Program} {id : Nat} {Q : Exit → Act → World → Prop} {a : Act} {w : World} {l : List Oper} (n : Nat) (hm : P.follows .mixedOrders = true) (hB : Region.lexTailB .any l.toArray n = true)
    (h : wpStill P l.toArray w.drew (fun a' => wpList P l.toArray Q (l.drop n) a' w.drew) (l.take n) a) : (Code.region id l.toArray true).wp P Q a w := wp_region_still_tail n hm hB h
theorem info_parts {P : Program} {t : TypeId} {z : Option Value} {n b : Nat} (h : (P.info? t).map (fun i => (i.zero, i.size, i.bytes)) = some (z, n, b)) : ∃ i, P.info? t = some i ∧ i.zero = z ∧ i.size = n ∧ i.bytes = b := by
  cases hi : P.info? t with
  | none => rw [hi] at h; cases h
  | some i =>
    rw [hi] at h
    simp only [Option.map_some, Option.some.injEq, Prod.mk.injEq] at h
    exact ⟨i, rfl, h.1, h.2.1, h.2.2⟩
theorem putAll_at {ks pre : List Int} {k : Nat} (h4 : 4 ≤ ks.length) (hk : 4 + k / 8 < ks.length) : ∃ y, (putAll (headK ks) 0 pre)[4 + k / 8]? = some y ∧ (putAll (headK ks) 0 pre).getD (4 + k / 8) 0 = y := by
  have h1 : 4 + k / 8 < (putAll (headK ks) 0 pre).length := by rw [putAll_len, headK_len h4]; exact hk
  refine ⟨_, List.getElem?_eq_getElem h1, ?_⟩
  rw [List.getD_eq_getElem?_getD, List.getElem?_eq_getElem h1]
  rfl
/-- What stands between two rounds. -/
structure PlI (w : World) (Q : Nat) (ks pre : List Int) (W : World) : Prop where
  row : W.heap[w.heap.size]? = some (.cells (u8s (putAll (headK ks) 0 pre)).toArray 5)
  out : W.heap[w.heap.size + 1]? = some (.cells #[.slice (some ⟨w.heap.size, 0, none⟩) ks.length ks.length] 26)
  num : W.heap[Q]? = some (.cells #[.int .i64 (pre.length : Int)] 3)
  but : But [] w W
theorem PlI.abides (w : World) (Q : Nat) (hQ : w.heap.size ≤ Q) (ks : List Int) : Abides (Q + 2) (PlI w Q ks) := Abides.of_but fun pre V W L h hb hL =>
  ⟨heap_far h.row hb hL, heap_far h.out hb hL, heap_far h.num hb hL, h.but.trans hb (fun x hx => .inr (by have := (hL x hx).1; omega))⟩
theorem PlI.more {w W W2 : World} {Q k : Nat} {ks pre : List Int} {x : Int} (h : PlI w Q ks pre W) (hb2 : But [w.heap.size] W W2) (hrow : W2.heap[w.heap.size]? = some (.cells (u8s (putAll (headK ks) 0 (pre ++ [x]))).toArray 5)) (hk : k = pre.length) (hq : w.heap.size + 2 ≤ Q) :
    KeepsOthers W (W2.setCell ⟨Q, 0, none⟩ (.int .i64 ((k : Int) + 1))) ∧ (∀ ok : Nat → Prop, ¬ ok w.heap.size → ¬ ok Q → KeepIn ok W (W2.setCell ⟨Q, 0, none⟩ (.int .i64 ((k : Int) + 1)))) ∧ PlI w Q ks (pre ++ [x]) (W2.setCell ⟨Q, 0, none⟩ (.int .i64 ((k : Int) + 1))) := by
  have hs : But [Q] W2 (W2.setCell ⟨Q, 0, none⟩ (.int .i64 ((k : Int) + 1))) := (But.refl _ _).setCell (.inl (by simp)) _
  have ht : But [w.heap.size, Q] W (W2.setCell ⟨Q, 0, none⟩ (.int .i64 ((k : Int) + 1))) := (hb2.mono (by simp)).trans hs (fun y hy => .inl (by simp at hy; simp [hy]))
  have hn2 := hb2.heap h.num (by simp; omega)
  refine ⟨keepsOthers_of_but ht (fun y hy => ?_), fun ok h3 h4 => KeepIn.of_but ht (fun y hy => by simp at hy; rcases hy with rfl | rfl; exact h3; exact h4), hs.heap hrow (by simp; omega), hs.heap (hb2.heap h.out (by simp)) (by simp; omega), ?_, h.but.trans ht (fun y hy => .inr (by simp at hy; omega))⟩
  · simp only [List.mem_cons, List.not_mem_nil, or_false] at hy
    rcases hy with rfl | rfl
    · exact ⟨_, _, _, h.row⟩
    · exact ⟨_, _, _, h.num⟩
  · subst hk
    simp [World.setCell, Array.getElem?_modify, hn2]
theorem bit_le {x : Int} (h : x = 0 ∨ x = 1) (j : Nat) : IntKind.u8.wrap x = x ∧ IntKind.u8.wrap (x * 2 ^ (7 - j % 8)) = x * 2 ^ (7 - j % 8) := by
  have hj : ∀ i : Nat, i < 8 → (2 : Int) ^ (7 - i) ≤ 128 ∧ 0 ≤ (2 : Int) ^ (7 - i) := by decide
  have h1 := hj (j % 8) (by omega)
  generalize (2 : Int) ^ (7 - j % 8) = p at *
  rcases h with rfl | rfl
  · simp [IntKind.wrap_u8]
  · rw [IntKind.wrap_u8, IntKind.wrap_u8]
    omega
set_option maxRecDepth 100000 in
set_option maxHeartbeats 4000000 in
theorem plain_w (ad : Addr) (cp : Nat) (ks : List Int) (w : World) (hs : Sees w (.slice (some ad) ks.length cp) (u8s ks)) (hk : KeyOk ks) :
    CallsIn Fence.wide 6 Try.prog 38 #[.slice (some ad) ks.length cp] w fun e w' => e = .returned (.slice (some ⟨w.heap.size, 0, none⟩) ks.length ks.length) ∧ w'.heap[w.heap.size]? = some (.cells (u8s (plainK ks)).toArray 5) ∧ But [] w w' := by
  have h1 : 1 ≤ 6 := by decide
  have hc4 := hs.len.1
  have hca : ¬ (cp = 0) := by have := hk.four; omega
  have hc4' : (4 : Int) ≤ (cp : Int) := by have := hk.four; omega
  have ha0 := add_zero ad
  have h4 := hk.four
  have h9 := hk.long
  have hadl := hs.low (by rw [u8s_len]; have := hk.four; omega) ad.block rfl
  obtain ⟨j0, ki, kz0, kz1, kz2⟩ := info_parts (show (Try.prog.info? 5).map (fun i => (i.zero, i.size, i.bytes)) = some (some (.int .u8 0), 1, 1) by kernel_rfl)
  have hmk : ∀ w, (Instr.makeSlice 26 (.int .i64 (ks.length : Int)) (.int .i64 (ks.length : Int))).run Try.prog w = .ok (.slice (some ⟨w.heap.size, 0, none⟩) ks.length ks.length) (w.alloc (.cells (madeCells #[.int .u8 0] ks.length) 5)) := fun w => by
    have h := run_make (P := Try.prog) w 26 5 j0 (.int .u8 0) Try.underlying26 ki kz0 .i64 .i64 (ks.length : Int) (ks.length : Int) (by omega) (by omega) (by rw [kz2]; omega) (by omega)
    rw [h, kz1]
    simp only [Int.toNat_natCast, Nat.mul_one]
    rfl
  obtain ⟨wA, hwA⟩ : ∃ wA, wA = ((w.alloc (.cells (madeCells #[.int .u8 0] ks.length) 5)).alloc (.cells #[.slice (some ⟨w.heap.size, 0, none⟩) ks.length ks.length] 26)) := ⟨_, rfl⟩
  have hbA : But [] w wA := by rw [hwA]; exact ((But.refl [] w).alloc _).alloc _
  have hzA : wA.heap.size = w.heap.size + 2 := by rw [hwA, size_alloc, size_alloc]
  have gA : wA.heap[w.heap.size]? = some (.cells (zeros ks.length).toArray 5) := by
    rw [hwA]
    have := al_keep (al_at w (.cells (madeCells #[.int .u8 0] ks.length) 5)) (.cells #[.slice (some ⟨w.heap.size, 0, none⟩) ks.length ks.length] 26)
    simpa [zeros] using this
  have gB : wA.heap[w.heap.size + 1]? = some (.cells #[.slice (some ⟨w.heap.size, 0, none⟩) ks.length ks.length] 26) := by rw [hwA]; exact al_eq _ _ _ (by rw [size_alloc])
  have HS := Lib.hid hs
  have HK := Lib.hid hk
  have HWA := Lib.hid hwA
  have HBA := Lib.hid hbA
  have HZA := Lib.hid hzA
  have HG : Hid (((w.alloc (.cells (madeCells #[.int .u8 0] ks.length) 5)).alloc (.cells #[.slice (some ⟨w.heap.size, 0, none⟩) ks.length ks.length] 26)).drew.heap[w.heap.size]? = some (.cells (zeros ks.length).toArray 5 (0, 0))) := Lib.hid (by rw [hwA] at gA; exact gA)
  have HGB := Lib.hid gB
  have HLN : Hid ((u8s (ks.take 4)).length = Nat.min 4 ks.length) := Lib.hid (by rw [u8s_len, List.length_take])
  have HPOS : Hid (0 < (u8s (ks.take 4)).length → ∃ ad', some ad = some ad' ∧ ∀ (j : Nat) (v : Value), (u8s (ks.take 4))[j]? = some v → ((w.alloc (.cells (madeCells #[.int .u8 0] ks.length) 5)).alloc (.cells #[.slice (some ⟨w.heap.size, 0, none⟩) ks.length ks.length] 26)).drew.cell? (ad'.add j) = some v) := Lib.hid (fun h0 => by
    have h2 : Sees wA (.slice (some ad) 4 cp) (u8s (ks.take 4)) := (hs.head h4).but hbA (by simp)
    rw [hwA] at h2
    exact sees_src h2 h0)
  have HFIT : Hid (0 + (u8s (ks.take 4)).length ≤ (zeros ks.length).length) := Lib.hid (by rw [u8s_len, List.length_take, zeros_len]; omega)
  clear hs hk hwA hbA hzA gA gB
  refine callsIn_of_wp_marks Try.func38 rfl trivial ?_ rfl
  simp only [Try.ntmps38, List.size_toArray, List.length_cons, List.length_nil, Nat.reduceAdd, Nat.reduceSub, Array.replicate_succ, Array.replicate_zero, List.push_toArray, List.append_toArray, List.nil_append, List.cons_append]
  refine wpIn_wide.2 ?_
  go_wp2_with fail
  refine wp_region_tail9 3 (by kernel_rfl) (by kernel_rfl) ?_
  simp only [List.take_succ_cons, List.take_zero, List.drop_succ_cons, List.drop_zero]
  repeat still_step
  refine wpStill_nil ?_
  refine wpList_copy_but rfl (.tmp 9) (.tmp 11) 26 26 rfl 5 Try.underlying26 (by kernel_rfl) (some ⟨w.heap.size, 0, none⟩) (some ad) ks.length ks.length 4 cp rfl rfl w.heap.size 0 (zeros ks.length) 5 HG.out (u8s (ks.take 4)) HLN.out (fun h => ⟨rfl, HPOS.out h⟩) HFIT.out (u8s_one _) ?_
  intro w5 hg5 hb5
  have hb5' : But [w.heap.size] wA w5 := ((But.refl _ _).drew.trans (by rw [HWA.out]; exact hb5) (fun x hx => .inl hx))
  have HG5 := Lib.hid hg5
  have HB5 := Lib.hid hb5'
  have hq5 := hb5'.size
  have hzA2 := HZA.out
  have HHEAD : Hid ((splice (zeros ks.length) 0 (u8s (ks.take 4))) = u8s (headK ks)) := Lib.hid (headK_splice h4)
  obtain ⟨w1, hw1⟩ : ∃ w1, w1 = (w5.alloc (.cells #[.int .i64 0] 3)).alloc (.cells #[.slice (some ad) ks.length cp] 26) := ⟨_, rfl⟩
  have hb1 : But [] w5 w1 := by rw [hw1]; exact ((But.refl [] w5).alloc _).alloc _
  have hz1 : w1.heap.size = w5.heap.size + 2 := by rw [hw1, size_alloc, size_alloc]
  have hbw : But [] w w1 := (HBA.out.trans HB5.out (fun x hx => .inr (by simp at hx; omega))).trans hb1 (by simp)
  have g0 : w1.heap[w.heap.size]? = some (.cells (u8s (headK ks)).toArray 5) := hb1.heap (by rw [← HHEAD.out]; exact HG5.out) (by simp)
  have g1 : w1.heap[w.heap.size + 1]? = some (.cells #[.slice (some ⟨w.heap.size, 0, none⟩) ks.length ks.length] 26) := hb1.heap (HB5.out.heap HGB.out (by simp)) (by simp)
  have g2 : w1.heap[w5.heap.size]? = some (.cells #[.int .i64 0] 3) := by rw [hw1]; exact al_keep (al_at w5 _) _
  have g3 : w1.heap[w5.heap.size + 1]? = some (.cells #[.slice (some ad) ks.length cp] 26) := by rw [hw1]; exact al_eq _ _ _ (by rw [size_alloc])
  have HSQ := Lib.hid (bits_seq 5 (by omega) (w5.heap.size + 1) (fun b => b = w5.heap.size + 1 ∨ b = ad.block) ad cp ks w1 g3 (HS.out.but hbw (by simp)) HK.out (.inl rfl) (.inr rfl))
  have HI0 : Hid (PlI w w5.heap.size ks [] w1) := Lib.hid ⟨g0, g1, g2, hbw⟩
  have HZ := Lib.hid hz1
  have HW := Lib.hid hw1
  clear hg5 hb5 hb5' hw1 hb1 hz1 hbw g0 g1 g2 g3
  go_wp2_with fail
  refine (bits_c _ _ _ _).mono ?_
  rintro e w2 ⟨rfl, rfl⟩
  go_wp2_with fail
  rw [← HW.out]
  refine (wpIn_wide (n := 6)).1 ?_
  refine wpIn_rangeFunc_but rfl h1 (gf := 54) (lb := #[.pointer (some ⟨w5.heap.size + 1, 0, none⟩)]) rfl trivial (enters_of Try.func54 (by kernel_rfl) rfl) HSQ.out
    (fun h k => h.trans k) (fun hz hb => KeepIn.of_but hb (by simp)) (fun V l o o' hl hV ho => KeepIn.of_but (but_putObj o' hV) (by have := HZ.out; simp only [List.mem_singleton]; rintro x rfl h; omega)) (any01_abides _) (But.refl _ _) (fun _ => rfl)
    (PlI w w5.heap.size ks) (fun _ _ _ => False) (HZ.out ▸ PlI.abides w w5.heap.size (by omega) ks) (fun _ => Abides.none _) HI0.out
    (fun x a' _ => a' = { tmps := #[.slice (some ad) ks.length cp, undef, .slice none 0 0, .pointer (some ⟨w.heap.size + 1, 0, none⟩), .pointer (some ⟨w5.heap.size, 0, none⟩), .int .i64 x, .slice (some ad) ks.length cp, .int .i64 ks.length, .slice (some ⟨w.heap.size, 0, none⟩) ks.length ks.length, .slice (some ⟨w.heap.size, 0, none⟩) ks.length ks.length, .slice (some ad) ks.length cp, .slice (some ad) 4 cp, .int .i64 (u8s (ks.take 4)).length, .slice (some ad) ks.length cp, .func (.func 54) #[] #[.pointer (some ⟨w5.heap.size + 1, 0, none⟩)], .int .i64 x, undef, undef, undef, undef, undef, undef, undef, undef, undef, undef, undef, undef, undef, undef, undef, undef, undef], defers := [] })
    (fun a' => ⟨fun _ _ _ h _ => h, fun _ _ _ _ _ h _ _ _ => h⟩) ?assign ?body ?done ?stop ?throw
  case assign =>
    intro l pre x W K _ _ _ hK
    simp only [encI]
    gi_wp2
    exact hK _ _ (But.refl _ _) rfl
  case body =>
    rintro l pre x a' W hx0 hI hx _ hlt
    subst hx0
    obtain ⟨k, hk⟩ : ∃ k, k = pre.length := ⟨_, rfl⟩
    have hkk : k < kmany ks := by rw [kbits_len] at hlt; omega
    have hkle := HK.out.le
    have hidx : 4 + k / 8 < ks.length := by omega
    have hidx' : (4 : Int) + (k : Int) / 8 < (ks.length : Int) := by omega
    have hk0 : (0 : Int) ≤ (k : Int) := by omega
    obtain ⟨y, hy, hyd⟩ := putAll_at (pre := pre) h4 hidx
    have c3 : W.cell? ⟨w.heap.size + 1, 0, none⟩ = some (.slice (some ⟨w.heap.size, 0, none⟩) ks.length ks.length) := cl_of hI.out 0
    have c4 : W.cell? ⟨w5.heap.size, 0, none⟩ = some (.int .i64 (k : Int)) := by rw [hk]; exact cl_of hI.num 0
    have f4 : W.frozen? ⟨w5.heap.size, 0, none⟩ = false := fz_of hI.num 0
    have cr : W.cell? ⟨w.heap.size, 4 + k / 8, none⟩ = some (.int .u8 y) := by
      rw [cl_of hI.row]
      simp [u8s_at hy]
    have fr : W.frozen? ⟨w.heap.size, 4 + k / 8, none⟩ = false := fz_of hI.row _
    have hw1 : IntKind.i64.wrap ((k : Int) / 8) = (k : Int) / 8 := by rw [IntKind.wrap_i64]; omega
    have hw2 : IntKind.i64.wrap (4 + (k : Int) / 8) = 4 + (k : Int) / 8 := by rw [IntKind.wrap_i64]; omega
    have hw3 : (4 + (k : Int) / 8).toNat = 4 + k / 8 := by omega
    have hw4 : IntKind.i64.wrap ((k : Int) % 8) = (k : Int) % 8 := by rw [IntKind.wrap_i64]; omega
    have hw5 : IntKind.i64.wrap (7 - (k : Int) % 8) = 7 - (k : Int) % 8 := by rw [IntKind.wrap_i64]; omega
    have hw6 : (7 - (k : Int) % 8).toNat = 7 - k % 8 := by omega
    have hw7 : Int.tmod (k : Int) 8 = (k : Int) % 8 := Int.tmod_eq_emod_of_nonneg hk0
    have hw8 : Int.tdiv (k : Int) 8 = (k : Int) / 8 := Int.tdiv_eq_ediv_of_nonneg hk0
    have hi0 : (0 : Int) ≤ 4 + (k : Int) / 8 := by omega
    obtain ⟨hw9, hw10⟩ := bit_le hx k
    have HKP := Lib.hid hk
    have HI := Lib.hid hI
    clear hI hk
    gi_wp2
    refine wpIn_region_tail 13 (by kernel_rfl) (by kernel_rfl) (by kernel_rfl) ?_
    simp only [List.take_succ_cons, List.take_zero, List.drop_succ_cons, List.drop_zero]
    repeat still_step
    refine wpStill_nil ?_
    go_wp2_with fail
    obtain ⟨W2, hW2⟩ : ∃ X, X = (W.setCell ⟨w.heap.size, 4 + k / 8, none⟩ (.int .u8 (bits .or .u8 y (x * 2 ^ (7 - k % 8))))).drew := ⟨_, rfl⟩
    have hb2 : But [w.heap.size] W W2 := by rw [hW2]; exact ((But.refl _ _).setCell (.inl (by simp)) _).drew
    have hrow2 : W2.heap[w.heap.size]? = some (.cells (u8s (putAll (headK ks) 0 (pre ++ [x]))).toArray 5) := by
      have h := HI.out.row
      rw [hW2, putAll_snoc, Nat.zero_add, ← HKP.out, putBit, hyd]
      show (W.setCell _ _).heap[w.heap.size]? = _
      simp [World.setCell, Array.getElem?_modify, h, u8s, List.map_set]
    have c4 : W2.cell? ⟨w5.heap.size, 0, none⟩ = some (.int .i64 (k : Int)) := cell_but hb2 c4 (by simp; omega)
    have f4 : W2.frozen? ⟨w5.heap.size, 0, none⟩ = false := fz_of (hb2.heap HI.out.num (by simp; omega)) 0
    have hw11 : wrap64 ((k : Int) + 1) = (k : Int) + 1 := by rw [wrap64]; omega
    rw [← hW2]
    have HRES := Lib.hid (PlI.more (hq := by omega) HI.out hb2 hrow2 HKP.out)
    clear hW2 hb2 hrow2 cr fr c3 hy hyd hw9 hw10 hw1 hw2 hw3 hw4 hw5 hw6 hw7 hw8 hi0 hidx hidx' hkle hkk
    generalize bits .or .u8 y (x * 2 ^ (7 - k % 8)) = bv
    generalize x * 2 ^ (7 - k % 8) = bw
    simp only [NormQ]
    gi_wp2
    exact ⟨HRES.out.1, HRES.out.2.1 _ (fun h => by omega) (fun h => by omega), HRES.out.2.2⟩
  case done =>
    rintro D ys W rfl rfl hI hK
    have c3 : W.cell? ⟨w.heap.size + 1, 0, none⟩ = some (.slice (some ⟨w.heap.size, 0, none⟩) ks.length ks.length) := cl_of hI.out 0
    have hb2 : But [w1.heap.size] W (W.putObj w1.heap.size (.deferred none)) := but_putObj _ hK
    have HEND := Lib.hid (show But [] w (W.putObj w1.heap.size (.deferred none)) from hI.but.trans hb2 (fun x hx => .inr (by have := HZ.out; simp at hx; omega)))
    have HROW := Lib.hid (hb2.heap hI.row (by have := HZ.out; simp; omega))
    clear hI hb2
    go_wp2_with fail
    refine ⟨by simp, .inl ⟨_, _, rfl, run_takeDeferred hK, ?_⟩⟩
    refine ⟨_, results_tmp rfl _ _ _, ?_⟩
    exact ⟨rfl, HROW.out, HEND.out⟩
  case stop =>
    rintro D c pre W _ _ h _
    exact h.elim
  case throw =>
    rintro D pre chain W _ h _ _
    exact h.elim
end Go.Proofs.Ytpoinhfkgnkedaa.M
