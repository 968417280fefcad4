/-
  trie's law: a key is laid; the chapter's example.
-/
import Derived.Test.YtpoinhfkgnkedaaGL
import Derived.Test.YtpoinhfkgnkedaaGD
namespace Go.Proofs.Ytpoinhfkgnkedaa.M
open Go.RowKit Go.Shelf
set_option linter.unusedVariables false
set_option linter.unusedSectionVars false
set_option linter.unusedSimpArgs false
set_option maxRecDepth 100000 in
theorem key_c (n : Int) (hn : 0 ≤ n ∧ n ≤ 255) (a : Option Addr) (c : Nat) (bs : List Int) (w : World) (hs : Sees w (.slice a bs.length c) (u8s bs)) (hl : bs.length ≤ 1000) :
    Calls Try.prog 32 #[.int .i64 n, .slice a bs.length c] w fun e w' => ∃ ad c', e = .returned (.slice (some ad) (n :: 0 :: 0 :: 0 :: bs).length c') ∧ Sees w' (.slice (some ad) (n :: 0 :: 0 :: 0 :: bs).length c') (u8s (n :: 0 :: 0 :: 0 :: bs)) ∧ w.heap.size ≤ ad.block ∧ But [] w w' := by
  obtain ⟨i0, hi, hz0, hz1, hz2⟩ := info_parts (show (Try.prog.info? 5).map (fun i => (i.zero, i.size, i.bytes)) = some (some (.int .u8 0), 1, 1) by kernel_rfl)
  obtain ⟨w1, hw1⟩ : ∃ w1, w1 = w.alloc (.cells #[.int .u8 n, .int .u8 0, .int .u8 0, .int .u8 0] 5) := ⟨_, rfl⟩
  have hb1 : But [] w w1 := by rw [hw1]; exact (But.refl [] w).alloc _
  have g1 : w1.heap[w.heap.size]? = some (.cells #[.int .u8 n, .int .u8 0, .int .u8 0, .int .u8 0] 5) := by rw [hw1]; exact al_at w _
  have HQ : Hid (OwnQ w1 5 (.slice (some ⟨w.heap.size, 0, none⟩) (u8s [n, 0, 0, 0]).length 4) (u8s [n, 0, 0, 0])) := Lib.hid (.inr ⟨w.heap.size, 0, 4, _, rfl, g1, Nat.le_refl 4, (by decide), Nat.le_refl 4, fun j u hj => by
    have hj4 : j < 4 := (List.getElem?_eq_some_iff.1 hj).1
    rw [Nat.zero_add]
    simpa [u8s] using hj⟩)
  have HSRC : Hid (Src Try.prog i0.size 26 (.slice a bs.length c) (u8s bs).length (u8s bs) w1) := Lib.hid (src_sees Try.underlying26 hz1 (hs.but hb1 (by simp)) (u8s_one bs))
  have HW := Lib.hid hw1
  have HB1 := Lib.hid hb1
  have hcv : IntKind.u8.wrap n = n := by simp [IntKind.wrap, IntKind.bits, IntKind.signed]; omega
  have HL : Hid ((u8s bs).length = bs.length) := Lib.hid (u8s_len bs)
  have HZ : Hid (w1.heap.size = w.heap.size + 1) := Lib.hid (by rw [hw1, size_alloc])
  clear hw1 hb1 g1 hs hn
  go_enter Try.func32, Try.ntmps32
  go_wp2_with (at_builtin; (try rw [← HW.out]); refine wpList_append_row rfl _ _ 26 rfl 5 i0 (.int .u8 0) 1 Try.underlying26 hi hz0 hz1 hz2 rfl _ (u8s [n, 0, 0, 0]) rfl HQ.out (u8s bs) _ rfl HSRC.out (by unfold maxLen; rw [HL.out, u8s_len]; show 4 + bs.length ≤ _; omega) (by rw [HL.out, u8s_len]; show (4 + bs.length) * 1 ≤ _; omega) ?_; intro v' w5 hap; have HAP : Hid (Appended w1 w5 5 (.slice (some ⟨w.heap.size, 0, none⟩) 4 4) v' (u8s [n, 0, 0, 0]) (u8s bs)) := Lib.hid hap; clear hap)
  go_ret
  obtain ⟨ho, hc⟩ := HAP.out
  have hz := HZ.out
  have hs5 := ho.sees
  have e8 : u8s [n, 0, 0, 0] ++ u8s bs = u8s (n :: 0 :: 0 :: 0 :: bs) := rfl
  rw [e8] at hs5
  obtain ⟨ad, c', hv⟩ := ho.form
  rw [e8, u8s_len] at hv
  subst hv
  obtain ⟨ad, rfl⟩ := sees_some hs5 (by simp)
  refine ⟨ad, c', rfl, hs5, ?_, ?_⟩
  · rcases hc with ⟨a', cap, h1, h2, _⟩ | ⟨h1, _⟩
    · simp only [Value.slice.injEq] at h1 h2
      have e9 : ad = ⟨w.heap.size, 0, none⟩ := Option.some.inj (h2.1.trans h1.1.symm)
      rw [e9]
      exact Nat.le_refl _
    · have e9 : ad.block = w1.heap.size := Option.some.inj h1
      omega
  · rcases hc with ⟨a', cap, h1, h2, h3, h4⟩ | ⟨_, h1⟩
    · exact HB1.out.trans h4 (fun x hx => .inr (by
        have hx' : x = w.heap.size := by
          simpa [Value.ownBlock] using hx
        omega))
    · exact HB1.out.trans h1 (by simp)
theorem byteL_dec {l : List Int} (h : (l.all fun x => decide (0 ≤ x) && decide (x ≤ 255)) = true) : ByteL l := fun x hx => by
  have := List.all_eq_true.1 h x hx
  simpa using this
theorem sees4 (w : World) (a b c d : Int) (t : TypeId) : Sees (w.alloc (.cells #[.int .u8 a, .int .u8 b, .int .u8 c, .int .u8 d] t)) (.slice (some ⟨w.heap.size, 0, none⟩) ([a, b, c, d] : List Int).length 4) (u8s [a, b, c, d]) := .inr ⟨_, 4, rfl, Nat.le_refl 4, fun j u hj => by
  rw [add_at, Nat.zero_add, cl_of (al_at _ _)]
  simpa [u8s] using hj⟩
theorem sees1 (w : World) (a : Int) (t : TypeId) : Sees (w.alloc (.cells #[.int .u8 a] t)) (.slice (some ⟨w.heap.size, 0, none⟩) ([a] : List Int).length 1) (u8s [a]) := .inr ⟨_, 1, rfl, Nat.le_refl 1, fun j u hj => by
  rw [add_at, Nat.zero_add, cl_of (al_at _ _)]
  simpa [u8s] using hj⟩
def E0m : EMap := fun _ => none
def E1m : EMap := putE E0m (kbits [8, 0, 0, 0, 10, 0, 0, 0]) (some 0)
def E2m : EMap := putE E1m (kbits [16, 0, 0, 0, 10, 1, 0, 0]) (some 1)
theorem free0 : freeI (usedE E0m) 4 = some 0 := freeI_at (by omega) (fun j hj => by omega) (by
  cases h : usedE E0m 0 with
  | false => rfl
  | true => obtain ⟨π, hp⟩ := (usedE_iff _ _).1 h; cases hp)
theorem free1 : freeI (usedE E1m) 4 = some 1 := freeI_at (by omega) (fun j hj => by
    obtain rfl : j = 0 := by omega
    exact (usedE_iff _ _).2 ⟨_, putE_at _ _ _⟩) (by
  cases h : usedE E1m 1 with
  | false => rfl
  | true =>
    obtain ⟨π, hp⟩ := (usedE_iff _ _).1 h
    unfold E1m putE at hp
    split at hp
    · cases hp
    · cases hp)
theorem upd_a1 (rows : List (List Int)) : ∃ rows', updT 8 1 4 E0m rows [8, 0, 0, 0, 10, 0, 0, 0] [1] 0 = (0, E1m, rows') := by
  unfold updT
  rw [if_neg (by decide)]
  have h1 : E0m (kbits [8, 0, 0, 0, 10, 0, 0, 0]) = none := rfl
  rw [h1]
  dsimp only
  rw [if_neg (by decide), free0]
  exact ⟨_, rfl⟩
theorem upd_a2 (rows : List (List Int)) : ∃ rows', updT 8 1 4 E1m rows [16, 0, 0, 0, 10, 1, 0, 0] [2] 0 = (0, E2m, rows') := by
  unfold updT
  rw [if_neg (by decide)]
  have h1 : E1m (kbits [16, 0, 0, 0, 10, 1, 0, 0]) = none := by decide +kernel
  rw [h1]
  dsimp only
  rw [if_neg (by decide), free1]
  exact ⟨_, rfl⟩
theorem look_a1 : lookT 8 E2m [32, 0, 0, 0, 10, 1, 2, 3] = (1, 0) := by decide +kernel
theorem look_a2 : lookT 8 E2m [32, 0, 0, 0, 10, 2, 0, 0] = (0, 0) := by decide +kernel
theorem look_a3 : lookT 8 E2m [32, 0, 0, 0, 11, 0, 0, 0] = (0, 6) := by decide +kernel
theorem key4 (n a b c d : Int) (hn : 0 ≤ n ∧ n ≤ 255) (w : World) (t : TypeId) :
    Calls Try.prog 32 #[.int .i64 n, .slice (some ⟨w.heap.size, 0, none⟩) 4 4] (w.alloc (.cells #[.int .u8 a, .int .u8 b, .int .u8 c, .int .u8 d] t)) fun e w' => ∃ ad c', e = .returned (.slice (some ad) 8 c') ∧ Sees w' (.slice (some ad) ([n, 0, 0, 0, a, b, c, d] : List Int).length c') (u8s [n, 0, 0, 0, a, b, c, d]) ∧ w.heap.size ≤ ad.block ∧ But [] w w' := by
  refine (key_c n hn (some ⟨w.heap.size, 0, none⟩) 4 [a, b, c, d] _ (sees4 w a b c d t) (show 4 ≤ 1000 by decide)).mono ?_
  rintro e w' ⟨ad, c', rfl, h1, h2, h3⟩
  rw [size_alloc] at h2
  exact ⟨ad, c', rfl, h1, by omega, ((But.refl [] w).alloc _).trans h3 (by simp)⟩
set_option maxRecDepth 100000 in
set_option maxHeartbeats 2000000 in
theorem awake (w : World) : Calls Try.prog 7 #[] w fun e w' => e = .returned (.bool true) ∧ But [] w w' := by
  have HN := Lib.hid (newTO 8 1 4 w (by decide +kernel))
  go_enter Try.func7, Try.ntmps7
  go_wp2_with fail
  refine HN.out.mono ?_
  rintro e w1 ⟨P, S, rfl, hT⟩
  have HT := Lib.hid hT
  clear hT HN
  go_wp2_with fail
  refine (key4 8 10 0 0 0 (by omega) _ _).mono ?_
  rintro e w2 ⟨ad, c, rfl, h1, h2, h3⟩
  have HS2 := Lib.hid h1
  have HA2 := Lib.hid h2
  have HB2 := Lib.hid h3
  clear h1 h2 h3
  go_wp2_with fail
  have hu : Calls Try.prog 12 #[.pointer (some ⟨P, 0, none⟩), .slice (some ad) 8 c, .slice (some ⟨w2.heap.size, 0, none⟩) 1 1, .int .u64 0] (w2.alloc (.cells #[.int .u8 1] 5)) fun r w' => ∃ v S' rows', r = .returned (.int .i64 v) ∧ TO w w' S' P 8 1 4 E1m rows' := by
    obtain ⟨rows', he⟩ := upd_a1 (List.replicate 4 (List.replicate 1 0))
    refine ((HT.out.new (HB2.out.alloc _)).update (some ad) c (ks := [8, 0, 0, 0, 10, 0, 0, 0]) (HS2.out.but ((But.refl [] _).alloc _) (by simp)) (byteL_dec (by decide)) (some ⟨w2.heap.size, 0, none⟩) 1 (vs := [1]) (sees1 _ _ _) (byteL_dec (by decide)) 0 (fun _ b hb hS => ?_) (fun _ b hb hS => ?_)).mono ?_
    · cases hb
      have := (HT.out.low _ hS).2
      have := HA2.out
      omega
    · cases hb
      have := (HT.out.low _ hS).2
      have := HB2.out.size
      dsimp only at *
      omega
    · rintro r w' ⟨rfl, S', h, _⟩
      have he' : updT 8 1 4 (fun _ => none) (List.replicate 4 (List.replicate 1 0)) [8, 0, 0, 0, 10, 0, 0, 0] [1] 0 = (0, E1m, rows') := he
      rw [he'] at h ⊢
      exact ⟨_, S', _, rfl, h⟩
  refine hu.mono ?_
  rintro e w3 ⟨v3, S3, rows3, rfl, hT⟩
  have HT3 := Lib.hid hT
  clear hT hu HT HS2 HA2 HB2
  go_wp2_with fail
  refine (key4 16 10 1 0 0 (by omega) _ _).mono ?_
  rintro e w4 ⟨ad4, c4, rfl, h1, h2, h3⟩
  have HS2 := Lib.hid h1
  have HA2 := Lib.hid h2
  have HB2 := Lib.hid h3
  clear h1 h2 h3
  go_wp2_with fail
  have hu : Calls Try.prog 12 #[.pointer (some ⟨P, 0, none⟩), .slice (some ad4) 8 c4, .slice (some ⟨w4.heap.size, 0, none⟩) 1 1, .int .u64 0] (w4.alloc (.cells #[.int .u8 2] 5)) fun r w' => ∃ v S' rows', r = .returned (.int .i64 v) ∧ TO w w' S' P 8 1 4 E2m rows' := by
    obtain ⟨rows', he⟩ := upd_a2 rows3
    refine ((HT3.out.new (HB2.out.alloc _)).update (some ad4) c4 (ks := [16, 0, 0, 0, 10, 1, 0, 0]) (HS2.out.but ((But.refl [] _).alloc _) (by simp)) (byteL_dec (by decide)) (some ⟨w4.heap.size, 0, none⟩) 1 (vs := [2]) (sees1 _ _ _) (byteL_dec (by decide)) 0 (fun _ b hb hS => ?_) (fun _ b hb hS => ?_)).mono ?_
    · cases hb
      have := (HT3.out.low _ hS).2
      have := HA2.out
      omega
    · cases hb
      have := (HT3.out.low _ hS).2
      have := HB2.out.size
      dsimp only at *
      omega
    · rintro r w' ⟨rfl, S', h, _⟩
      rw [he] at h ⊢
      exact ⟨_, S', _, rfl, h⟩
  refine hu.mono ?_
  rintro e w5 ⟨v5, S5, rows5, rfl, hT⟩
  have HT5 := Lib.hid hT
  clear hT hu HT3 HS2 HA2 HB2
  go_wp2_with fail
  refine (key4 32 10 1 2 3 (by omega) _ _).mono ?_
  rintro e w6 ⟨ad6, c6, rfl, h1, h2, h3⟩
  have HS2 := Lib.hid h1
  have HB2 := Lib.hid h3
  clear h1 h2 h3
  go_wp2_with fail
  have hu : Calls Try.prog 14 #[.pointer (some ⟨P, 0, none⟩), .slice (some ad6) 8 c6] w6 fun r w' => r = .returned (.tuple #[.int .i64 1, .int .i64 0]) ∧ But [] w5 w' := by
    refine ((HT5.out.new HB2.out).lookup (some ad6) c6 (ks := [32, 0, 0, 0, 10, 1, 2, 3]) HS2.out (byteL_dec (by decide))).mono ?_
    rintro r w' ⟨rfl, h⟩
    rw [look_a1]
    exact ⟨rfl, HB2.out.trans h (by simp)⟩
  refine hu.mono ?_
  rintro e w7 ⟨rfl, hb⟩
  have HT7 := Lib.hid (HT5.out.new hb)
  clear hb hu HT5 HS2 HB2
  go_wp2_with fail
  refine (key4 32 10 2 0 0 (by omega) _ _).mono ?_
  rintro e w8 ⟨ad8, c8, rfl, h1, h2, h3⟩
  have HS2 := Lib.hid h1
  have HB2 := Lib.hid h3
  clear h1 h2 h3
  go_wp2_with fail
  have hu : Calls Try.prog 14 #[.pointer (some ⟨P, 0, none⟩), .slice (some ad8) 8 c8] w8 fun r w' => r = .returned (.tuple #[.int .i64 0, .int .i64 0]) ∧ But [] w7 w' := by
    refine ((HT7.out.new HB2.out).lookup (some ad8) c8 (ks := [32, 0, 0, 0, 10, 2, 0, 0]) HS2.out (byteL_dec (by decide))).mono ?_
    rintro r w' ⟨rfl, h⟩
    rw [look_a2]
    exact ⟨rfl, HB2.out.trans h (by simp)⟩
  refine hu.mono ?_
  rintro e w9 ⟨rfl, hb⟩
  have HT9 := Lib.hid (HT7.out.new hb)
  clear hb hu HT7 HS2 HB2
  go_wp2_with fail
  refine (key4 32 11 0 0 0 (by omega) _ _).mono ?_
  rintro e w10 ⟨ad10, c10, rfl, h1, h2, h3⟩
  have HS2 := Lib.hid h1
  have HB2 := Lib.hid h3
  clear h1 h2 h3
  go_wp2_with fail
  have hu : Calls Try.prog 14 #[.pointer (some ⟨P, 0, none⟩), .slice (some ad10) 8 c10] w10 fun r w' => r = .returned (.tuple #[.int .i64 0, .int .i64 6]) ∧ But [] w9 w' := by
    refine ((HT9.out.new HB2.out).lookup (some ad10) c10 (ks := [32, 0, 0, 0, 11, 0, 0, 0]) HS2.out (byteL_dec (by decide))).mono ?_
    rintro r w' ⟨rfl, h⟩
    rw [look_a3]
    exact ⟨rfl, HB2.out.trans h (by simp)⟩
  refine hu.mono ?_
  rintro e w11 ⟨rfl, hb⟩
  have HT11 := Lib.hid (HT9.out.new hb)
  clear hb hu HT9 HS2 HB2
  go_wp2_with fail
  go_ret
  exact ⟨rfl, HT11.out.but⟩
end Go.Proofs.Ytpoinhfkgnkedaa.M
