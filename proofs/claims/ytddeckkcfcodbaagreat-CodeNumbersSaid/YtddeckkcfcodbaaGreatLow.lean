/-
  low: a number's bytes, put behind a row of one's own.
-/
import Derived.Test.YtddeckkcfcodbaaGreatTried
import Derived.Test.YtddeckkcfcodbaaGreatRow
import Derived.Test.YtddeckkcfcodbaaGreatOwnQ
import Derived.Test.YtddeckkcfcodbaaGreatRange
import Derived.Laws.BitsAllLaws
import Derived.Deep.DeepCutAuto
namespace Go.Proofs.YtddeckkcfcodbaaGreat.M
open Go.RowKit Go.Shelf
set_option linter.unusedVariables false
set_option linter.unusedSectionVars false
set_option linter.unusedSimpArgs false
theorem wrap_i16 (n : Int) : IntKind.i16.wrap n = (n + 32768) % 65536 - 32768 := by
  simp [IntKind.wrap, IntKind.bits, IntKind.signed]
  split <;> omega
/-- A number's byte at a place. -/
def byteAt (n : Int) (i : Nat) : Int := n / 256 ^ i % 256
def leB (n : Int) (k : Nat) : List Int := (List.range k).map (byteAt n)
def u8s (l : List Int) : List Value := l.map (.int .u8)
theorem leB_succ (n : Int) (k : Nat) : leB n (k + 1) = leB n k ++ [n / 256 ^ k % 256] := by simp [leB, List.range_succ, byteAt]
theorem leB_len (n : Int) (k : Nat) : (leB n k).length = k := by simp [leB]
theorem u8s_len (l : List Int) : (u8s l).length = l.length := by simp [u8s]
theorem u8s_app (l m : List Int) : u8s (l ++ m) = u8s l ++ u8s m := by simp [u8s]
theorem pow_div (n : Int) (k : Nat) : n / 256 ^ (k + 1) = n / 256 ^ k / 256 := by
  rw [Int.pow_succ, Int.ediv_ediv_of_nonneg (Int.le_of_lt (Int.pow_pos (by decide)))]
/-- What an append to a row of one's own leaves. -/
def Grown (w w' : World) (e : TypeId) (v v' : Value) (ys : List Value) : Prop := OwnQ w' e v' ys ∧ But v.ownBlock.toList w w' ∧ (v'.ownBlock = v.ownBlock ∨ ∃ b, v'.ownBlock = some b ∧ w.heap.size ≤ b)
theorem own_same (a : Option Addr) (n c n' c' : Nat) : (Value.slice a n c).ownBlock = (Value.slice a n' c').ownBlock := by cases a <;> rfl
theorem Grown.more {w w1 w2 w3 : World} {e : TypeId} {v v1 v2 : Value} {ys zs : List Value} (h : Grown w w1 e v v1 ys) (hb : But [] w1 w2) (hz : w1.heap.size ≤ w2.heap.size) (hap : Appended w2 w3 e v1 v2 ys zs) : Grown w w3 e v v2 (ys ++ zs) := by
  obtain ⟨h1, h2, h3⟩ := h
  obtain ⟨hq, hc⟩ := hap
  have hs1 := h2.size
  rcases hc with ⟨a, cap, e1, e2, _, hb2⟩ | ⟨hn, hb2⟩
  · have hown : v2.ownBlock = v1.ownBlock := by rw [e1, e2]; exact own_same _ _ _ _ _
    refine ⟨hq, (h2.trans hb (by simp)).trans hb2 (fun x hx => ?_), ?_⟩
    · have hx' : v1.ownBlock = some x := by simpa using hx
      rcases h3 with h3 | ⟨b, h3, hb3⟩
      · left; rw [← h3, hx']; simp
      · right; rw [hx'] at h3; cases h3; exact hb3
    · rw [hown]; exact h3
  · exact ⟨hq, (h2.trans hb (by simp)).trans hb2 (by simp), .inr ⟨_, hn, by omega⟩⟩
theorem byte_range {n : Int} {k : Nat} (lo hi : Int) (h0 : lo ≤ 0) (h1 : 0 ≤ hi) (h : lo ≤ n ∧ n ≤ hi) : lo ≤ n / 256 ^ k ∧ n / 256 ^ k ≤ hi := by
  have hp : (0 : Int) < 256 ^ k := Int.pow_pos (by decide)
  have hp1 : (1 : Int) ≤ 256 ^ k := hp
  constructor
  · rw [Int.le_ediv_iff_mul_le hp]
    have : lo * 256 ^ k ≤ lo * 1 := Int.mul_le_mul_of_nonpos_left h0 hp1
    omega
  · by_cases hn : n < 0
    · have := Int.ediv_neg_of_neg_of_pos hn hp; omega
    · exact Int.le_trans (Int.ediv_le_self _ (by omega)) h.2
set_option maxRecDepth 100000 in
set_option maxHeartbeats 2000000 in
theorem low16 (v : Value) (xs : List Value) (n : Int) (k : Nat) (w : World) (hv : OwnQ w 5 v xs) (hn : -32768 ≤ n ∧ n ≤ 32767) (hk : k ≤ 8) (hx : xs.length ≤ 1000) :
    Calls Tryz.prog 42 #[v, .int .i16 n, .int .i64 k] w fun e w' => ∃ a c, e = .returned (.slice a (xs.length + k) c) ∧ Grown w w' 5 v (.slice a (xs.length + k) c) (xs ++ u8s (leB n k)) := by
  obtain ⟨j0, ki, kz0, kz1, kz2⟩ := info_parts (show (Tryz.prog.info? 5).map (fun i => (i.zero, i.size, i.bytes)) = some (some (.int .u8 0), 1, 1) by kernel_rfl)
  obtain ⟨a0, c0, rfl⟩ := hv.form
  have HV := Lib.hid hv
  have HN := Lib.hid hn
  have hk0 : (0 : Int) ≤ k := by omega
  have hk8 : (k : Int) ≤ 8 := by omega
  clear hv hn
  go_enter Tryz.func42, Tryz.ntmps42
  go_wp2_with fail
  go_loopw [0, 1, 8] (fun vv nn ii wr => ∃ (j : Nat) (a : Option Addr) (c : Nat), j ≤ k ∧ ii = .int .i64 j ∧ nn = .int .i16 (n / 256 ^ j) ∧ vv = .slice a (xs.length + j) c ∧ Grown w wr 5 (.slice a0 xs.length c0) (.slice a (xs.length + j) c) (xs ++ u8s (leB n j))) (fun _ _ ii _ => k - (intOf ii).toNat)
  case atStart => exact ⟨0, a0, c0, Nat.zero_le _, rfl, by simp, rfl, by simpa [leB, u8s] using HV.out, But.refl _ _, .inl rfl⟩
  case round =>
    obtain ⟨j, a, c, hj, rfl, rfl, rfl, hg⟩ := hrel
    have HG := Lib.hid hg
    obtain ⟨m, hm⟩ : ∃ m, m = n / 256 ^ j := ⟨_, rfl⟩
    have hmb := byte_range (n := n) (k := j) (-32768) 32767 (by decide) (by decide) HN.out
    rw [← hm] at hmb ⊢
    have HM := Lib.hid hm
    clear hg hm
    by_cases hlt : j < k
    · have hj0 : (0 : Int) ≤ j := by omega
      have hjk : (j : Int) < k := by omega
      have hmd : (-32768 : Int) ≤ m / 256 ∧ m / 256 ≤ 32767 := by omega
      have HW : Hid (IntKind.i16.wrap (m / 256) = m / 256) := Lib.hid (by rw [wrap_i16]; omega)
      have HL : Hid (xs.length + j = (xs ++ u8s (leB n j)).length) := Lib.hid (by rw [List.length_append, u8s_len, leB_len])
      have HQ : Hid (OwnQ (wr.alloc (.cells #[.int .u8 (m % 256)] 5)) 5 (.slice a (xs.length + j) c) (xs ++ u8s (leB n j))) := Lib.hid (HG.out.1.but ((But.refl [] _).alloc _) (by simp))
      have HS : Hid (Src Tryz.prog j0.size 22 (.slice (some ⟨wr.heap.size, 0, none⟩) 1 1) [Value.int .u8 (m % 256)].length [.int .u8 (m % 256)] (wr.alloc (.cells #[.int .u8 (m % 256)] 5))) := Lib.hid (by
        refine src_sees (P := Tryz.prog) Tryz.underlying22 kz1 (xs := [.int .u8 (m % 256)]) (.inr ⟨⟨wr.heap.size, 0, none⟩, 1, rfl, by simp, fun i u hu => ?_⟩) (fun v hv => by simp at hv; subst hv; rfl)
        rw [add_at, cl_of (al_at _ _)]
        match i, hu with
        | 0, hu => simpa using hu)
      have KEY : Hid (∀ (v' : Value) (w' : World), Appended (wr.alloc (.cells #[.int .u8 (m % 256)] 5)) w' 5 (.slice a (xs.length + j) c) v' (xs ++ u8s (leB n j)) [.int .u8 (m % 256)] → ∃ a' c', v' = .slice a' (xs.length + (j + 1)) c' ∧ Grown w w' 5 (.slice a0 xs.length c0) (.slice a' (xs.length + (j + 1)) c') (xs ++ u8s (leB n (j + 1)))) := Lib.hid fun v' w' hap => by
        have h := HG.out.more ((But.refl [] wr).alloc _) (by rw [size_alloc]; omega) hap
        obtain ⟨a', c', e⟩ := h.1.form
        have hl : (xs ++ u8s (leB n j) ++ [Value.int .u8 (m % 256)]).length = xs.length + (j + 1) := by rw [List.length_append, List.length_append, u8s_len, leB_len, List.length_singleton]; omega
        rw [hl] at e
        subst e
        refine ⟨a', c', rfl, ?_⟩
        rw [leB_succ, u8s_app, ← List.append_assoc]
        rw [HM.out] at h
        exact h
      clear hmd
      have hlen : (xs ++ u8s (leB n j)).length ≤ 2000 := by rw [List.length_append, u8s_len, leB_len]; omega
      have hmw : IntKind.i16.wrap (m / 256) = m / 256 := HW.out
      go_wp2_with (at_builtin; refine wpList_append_row (by rfl) _ _ 22 (by rfl) 5 j0 (.int .u8 0) 1 Tryz.underlying22 ki kz0 kz1 kz2 rfl _ (xs ++ u8s (leB n j)) (by rfl) HQ.out [_] _ (by rfl) HS.out (by unfold maxLen; have h0 : ∀ x : Value, [x].length = 1 := fun _ => rfl; rw [h0]; omega) (by have h0 : ∀ x : Value, [x].length = 1 := fun _ => rfl; rw [h0]; omega) ?_; intro v' w' hap; obtain ⟨a', c', rfl, hg'⟩ := KEY.out _ _ hap; have HG' := Lib.hid hg'; clear hap hg')
      go_roundw
      case rel => exact ⟨j + 1, a', c', by omega, by go_num, by rw [pow_div, ← HM.out], rfl, HG'.out⟩
      case measure => simp [intOf]; omega
    · obtain rfl : j = k := by omega
      go_wp2_with fail
      go_ret
      exact ⟨a, c, rfl, HG.out⟩
set_option maxRecDepth 100000 in
set_option maxHeartbeats 2000000 in
theorem low32 (v : Value) (xs : List Value) (n : Int) (k : Nat) (w : World) (hv : OwnQ w 5 v xs) (hn : -2147483648 ≤ n ∧ n ≤ 2147483647) (hk : k ≤ 8) (hx : xs.length ≤ 1000) :
    Calls Tryz.prog 41 #[v, .int .i32 n, .int .i64 k] w fun e w' => ∃ a c, e = .returned (.slice a (xs.length + k) c) ∧ Grown w w' 5 v (.slice a (xs.length + k) c) (xs ++ u8s (leB n k)) := by
  obtain ⟨j0, ki, kz0, kz1, kz2⟩ := info_parts (show (Tryz.prog.info? 5).map (fun i => (i.zero, i.size, i.bytes)) = some (some (.int .u8 0), 1, 1) by kernel_rfl)
  obtain ⟨a0, c0, rfl⟩ := hv.form
  have HV := Lib.hid hv
  have HN := Lib.hid hn
  have hk0 : (0 : Int) ≤ k := by omega
  have hk8 : (k : Int) ≤ 8 := by omega
  clear hv hn
  go_enter Tryz.func41, Tryz.ntmps41
  go_wp2_with fail
  go_loopw [0, 1, 8] (fun vv nn ii wr => ∃ (j : Nat) (a : Option Addr) (c : Nat), j ≤ k ∧ ii = .int .i64 j ∧ nn = .int .i32 (n / 256 ^ j) ∧ vv = .slice a (xs.length + j) c ∧ Grown w wr 5 (.slice a0 xs.length c0) (.slice a (xs.length + j) c) (xs ++ u8s (leB n j))) (fun _ _ ii _ => k - (intOf ii).toNat)
  case atStart => exact ⟨0, a0, c0, Nat.zero_le _, rfl, by simp, rfl, by simpa [leB, u8s] using HV.out, But.refl _ _, .inl rfl⟩
  case round =>
    obtain ⟨j, a, c, hj, rfl, rfl, rfl, hg⟩ := hrel
    have HG := Lib.hid hg
    obtain ⟨m, hm⟩ : ∃ m, m = n / 256 ^ j := ⟨_, rfl⟩
    have hmb := byte_range (n := n) (k := j) (-2147483648) 2147483647 (by decide) (by decide) HN.out
    rw [← hm] at hmb ⊢
    have HM := Lib.hid hm
    clear hg hm
    by_cases hlt : j < k
    · have hj0 : (0 : Int) ≤ j := by omega
      have hjk : (j : Int) < k := by omega
      have hmd : (-2147483648 : Int) ≤ m / 256 ∧ m / 256 ≤ 2147483647 := by omega
      have HW : Hid (IntKind.i32.wrap (m / 256) = m / 256) := Lib.hid (by rw [IntKind.wrap_i32]; omega)
      have HL : Hid (xs.length + j = (xs ++ u8s (leB n j)).length) := Lib.hid (by rw [List.length_append, u8s_len, leB_len])
      have HQ : Hid (OwnQ (wr.alloc (.cells #[.int .u8 (m % 256)] 5)) 5 (.slice a (xs.length + j) c) (xs ++ u8s (leB n j))) := Lib.hid (HG.out.1.but ((But.refl [] _).alloc _) (by simp))
      have HS : Hid (Src Tryz.prog j0.size 22 (.slice (some ⟨wr.heap.size, 0, none⟩) 1 1) [Value.int .u8 (m % 256)].length [.int .u8 (m % 256)] (wr.alloc (.cells #[.int .u8 (m % 256)] 5))) := Lib.hid (by
        refine src_sees (P := Tryz.prog) Tryz.underlying22 kz1 (xs := [.int .u8 (m % 256)]) (.inr ⟨⟨wr.heap.size, 0, none⟩, 1, rfl, by simp, fun i u hu => ?_⟩) (fun v hv => by simp at hv; subst hv; rfl)
        rw [add_at, cl_of (al_at _ _)]
        match i, hu with
        | 0, hu => simpa using hu)
      have KEY : Hid (∀ (v' : Value) (w' : World), Appended (wr.alloc (.cells #[.int .u8 (m % 256)] 5)) w' 5 (.slice a (xs.length + j) c) v' (xs ++ u8s (leB n j)) [.int .u8 (m % 256)] → ∃ a' c', v' = .slice a' (xs.length + (j + 1)) c' ∧ Grown w w' 5 (.slice a0 xs.length c0) (.slice a' (xs.length + (j + 1)) c') (xs ++ u8s (leB n (j + 1)))) := Lib.hid fun v' w' hap => by
        have h := HG.out.more ((But.refl [] wr).alloc _) (by rw [size_alloc]; omega) hap
        obtain ⟨a', c', e⟩ := h.1.form
        have hl : (xs ++ u8s (leB n j) ++ [Value.int .u8 (m % 256)]).length = xs.length + (j + 1) := by rw [List.length_append, List.length_append, u8s_len, leB_len, List.length_singleton]; omega
        rw [hl] at e
        subst e
        refine ⟨a', c', rfl, ?_⟩
        rw [leB_succ, u8s_app, ← List.append_assoc]
        rw [HM.out] at h
        exact h
      clear hmd
      have hlen : (xs ++ u8s (leB n j)).length ≤ 2000 := by rw [List.length_append, u8s_len, leB_len]; omega
      have hmw : IntKind.i32.wrap (m / 256) = m / 256 := HW.out
      go_wp2_with (at_builtin; refine wpList_append_row (by rfl) _ _ 22 (by rfl) 5 j0 (.int .u8 0) 1 Tryz.underlying22 ki kz0 kz1 kz2 rfl _ (xs ++ u8s (leB n j)) (by rfl) HQ.out [_] _ (by rfl) HS.out (by unfold maxLen; have h0 : ∀ x : Value, [x].length = 1 := fun _ => rfl; rw [h0]; omega) (by have h0 : ∀ x : Value, [x].length = 1 := fun _ => rfl; rw [h0]; omega) ?_; intro v' w' hap; obtain ⟨a', c', rfl, hg'⟩ := KEY.out _ _ hap; have HG' := Lib.hid hg'; clear hap hg')
      go_roundw
      case rel => exact ⟨j + 1, a', c', by omega, by go_num, by rw [pow_div, ← HM.out], rfl, HG'.out⟩
      case measure => simp [intOf]; omega
    · obtain rfl : j = k := by omega
      go_wp2_with fail
      go_ret
      exact ⟨a, c, rfl, HG.out⟩
end Go.Proofs.YtddeckkcfcodbaaGreat.M
