/-
  Merged: RefA, RefB, RefC, RelPl, RefD, RefE, RefF, DoesA.
-/
import Derived.Test.YtmaeiifhmngllaaNew
import Derived.Test.YtmaeiifhmngllaaSame
import Derived.Test.YtmaeiifhmngllaaBackQl
import Derived.Test.YtmaeiifhmngllaaRow
import Derived.Test.YtmaeiifhmngllaaLentAll
import Derived.Test.YtmaeiifhmngllaaCBack
namespace Go.Proofs.Ytmaeiifhmngllaa.M
open Go.RowKit
set_option linter.unusedVariables false
set_option linter.unusedSectionVars false
set_option linter.unusedSimpArgs false
theorem sizeR (n : Int) (w : World) : Calls Try.prog 30 #[.int .i64 n] w fun e w' => e = .returned (.bool (sizeB n)) ∧ w = w' := by
  by_cases h1 : n = 1
  · subst h1
    go_enter Try.func30, Try.ntmps30
    go_wp2_with fail
    go_ret
    exact ⟨rfl, rfl⟩
  · by_cases h2 : n = 2
    · subst h2
      go_enter Try.func30, Try.ntmps30
      go_wp2_with fail
      go_ret
      exact ⟨rfl, rfl⟩
    · by_cases h4 : n = 4
      · subst h4
        go_enter Try.func30, Try.ntmps30
        go_wp2_with fail
        go_ret
        exact ⟨rfl, rfl⟩
      · have b1 : (n == 1) = false := by simpa using h1
        have b2 : (n == 2) = false := by simpa using h2
        have b4 : (n == 4) = false := by simpa using h4
        have HE : Hid (sizeB n = (n == 8)) := Lib.hid (by
          unfold sizeB
          by_cases h8 : n = 8
          · subst h8; rfl
          · rw [decide_eq_false (by omega)]; simp [h8])
        clear h1 h2 h4
        go_enter Try.func30, Try.ntmps30
        go_wp2_with fail
        go_ret
        exact ⟨by rw [HE.out]; rfl, rfl⟩
theorem thereR (off n : Int) (w : World) (h0 : 0 ≤ n) (h5 : n ≤ 512) : Calls Try.prog 31 #[.int .i64 off, .int .i64 n] w fun e w' => e = .returned (.bool (decide (0 ≤ off ∧ off ≤ 512 - n))) ∧ w = w' := by
  have hw : wrap64 (512 - n) = 512 - n := by rw [wrap64]; omega
  by_cases h1 : 0 ≤ off
  · have HE : Hid (decide (0 ≤ off ∧ off ≤ 512 - n) = decide (off ≤ 512 - n)) := Lib.hid (by simp [h1])
    go_enter Try.func31, Try.ntmps31
    go_wp2_with fail
    go_ret
    exact ⟨by rw [HE.out]; rfl, rfl⟩
  · have HE : Hid (decide (0 ≤ off ∧ off ≤ 512 - n) = false) := Lib.hid (decide_eq_false (fun h => h1 h.1))
    have hd : decide (0 ≤ off) = false := decide_eq_false h1
    clear h1
    go_enter Try.func31, Try.ntmps31
    go_wp2_with fail
    go_ret
    exact ⟨by rw [HE.out]; rfl, rfl⟩
set_option maxHeartbeats 1000000 in
theorem rightR (k wd rg of_ : Int) (w : World) : Calls Try.prog 37 #[.agg #[.int .u8 k, .int .u64 wd, .int .i64 rg, .int .i64 of_]] w fun e w' => e = .returned (.bool (rightB ⟨k, wd, rg, of_⟩)) ∧ But [] w w' := by
  by_cases e0 : k = 0
  · subst e0
    go_enter Try.func37, Try.ntmps37
    go_wp2_with fail
    all_goals
      go_ret
      refine ⟨?_, (But.refl _ _).alloc _⟩
      (simp [rightB, *]) <;> rfl
  · by_cases e1 : k = 1
    · subst e1
      by_cases hr : rg = 0
      · subst hr
        go_enter Try.func37, Try.ntmps37
        go_wp2_with fail
        all_goals
          go_ret
          refine ⟨?_, (But.refl _ _).alloc _⟩
          (simp [rightB, *]) <;> rfl
      · have hb : (rg == 0) = false := by simpa using hr
        go_enter Try.func37, Try.ntmps37
        go_wp2_with fail
        all_goals
          go_ret
          refine ⟨?_, (But.refl _ _).alloc _⟩
          (simp [rightB, *]) <;> rfl
    · by_cases e2 : k = 2
      · subst e2
        go_enter Try.func37, Try.ntmps37
        go_wp2_with fail
        all_goals
          go_ret
          refine ⟨?_, (But.refl _ _).alloc _⟩
          (simp [rightB, *]) <;> rfl
      · by_cases e3 : k = 3
        · subst e3
          by_cases hr : wd = 0
          · subst hr
            go_enter Try.func37, Try.ntmps37
            go_wp2_with fail
            all_goals
              go_ret
              refine ⟨?_, (But.refl _ _).alloc _⟩
              (simp [rightB, *]) <;> rfl
          · have hb : (wd == 0) = false := by simpa using hr
            go_enter Try.func37, Try.ntmps37
            go_wp2_with fail
            all_goals
              go_ret
              refine ⟨?_, (But.refl _ _).alloc _⟩
              (simp [rightB, *]) <;> rfl
        · have b0 : (k == 0) = false := by simpa using e0
          have b1 : (k == 1) = false := by simpa using e1
          have b2 : (k == 2) = false := by simpa using e2
          have b3 : (k == 3) = false := by simpa using e3
          go_enter Try.func37, Try.ntmps37
          go_wp2_with fail
          all_goals
            go_ret
            refine ⟨?_, (But.refl _ _).alloc _⟩
            (simp [rightB, *]) <;> rfl
/-- The reference's stack: bytes, which are set, what groups hold whole. -/
structure RStk where
  b : Nat → Int
  set : Nat → Bool
  whole : Nat → CV
def RStk.val (R : RStk) (i : Nat) : Value := if i < 512 then .int .u8 (R.b i) else if i < 1024 then .bool (R.set (i - 512)) else (R.whole ((i - 1024) / 4)).at ((i - 1024) % 4)
theorem rval_b (R : RStk) {i : Nat} (h : i < 512) : R.val i = .int .u8 (R.b i) := by unfold RStk.val; rw [if_pos h]
theorem rval_set (R : RStk) {i : Nat} (h : i < 512) : R.val (512 + i) = .bool (R.set i) := by unfold RStk.val; rw [if_neg (by omega), if_pos (by omega), show 512 + i - 512 = i by omega]
theorem rval_whole (R : RStk) {k q : Nat} (hk : k < 64) (hq : q < 4) : R.val (1024 + (k * 4 + q)) = (R.whole k).at q := by
  unfold RStk.val
  rw [if_neg (by omega), if_neg (by omega), show (1024 + (k * 4 + q) - 1024) / 4 = k by omega, show (1024 + (k * 4 + q) - 1024) % 4 = q by omega]
end Go.Proofs.Ytmaeiifhmngllaa.M
namespace Go.Proofs.Ytmaeiifhmngllaa.M
open Go.RowKit
set_option linter.unusedVariables false
set_option linter.unusedSectionVars false
set_option linter.unusedSimpArgs false
/-- n bytes of a row are set, from o on. -/
def putC (R : RStk) (o n : Nat) (bs : List Int) : RStk where
  b := fun j => if o ≤ j ∧ j < o + n then bs.getD (j - o) 0 else R.b j
  set := fun j => if o ≤ j ∧ j < o + n then true else R.set j
  whole := fun g => if o < 8 * g + 8 ∧ 8 * g < o + n ∧ 0 < n then (if (R.whole g).k = 0 then R.whole g else c0) else R.whole g
theorem putC_zero (R : RStk) (o : Nat) (bs : List Int) : putC R o 0 bs = R := by
  have h1 : (fun j => if o ≤ j ∧ j < o + 0 then bs.getD (j - o) 0 else R.b j) = R.b := funext fun j => if_neg (by omega)
  have h2 : (fun j => if o ≤ j ∧ j < o + 0 then true else R.set j) = R.set := funext fun j => if_neg (by omega)
  have h3 : (fun g => if o < 8 * g + 8 ∧ 8 * g < o + 0 ∧ 0 < 0 then (if (R.whole g).k = 0 then R.whole g else c0) else R.whole g) = R.whole := funext fun g => if_neg (by omega)
  unfold putC
  rw [h1, h2, h3]
def clrR (R : RStk) (g : Nat) : RStk := { R with whole := fun j => if j = g then c0 else R.whole j }
def put1 (R : RStk) (m : Nat) (x : Int) : RStk where
  b := fun j => if j = m then x else R.b j
  set := fun j => if j = m then true else R.set j
  whole := fun g => if g = m / 8 ∧ (R.whole g).k ≠ 0 then c0 else R.whole g
theorem rstk_ext {R T : RStk} (h1 : R.b = T.b) (h2 : R.set = T.set) (h3 : R.whole = T.whole) : R = T := by
  cases R
  cases T
  cases h1
  cases h2
  cases h3
  rfl
theorem put1_more (R : RStk) (o n : Nat) (bs : List Int) (hz : ∀ g, (R.whole g).k = 0 → R.whole g = R.whole g) : put1 (putC R o n bs) (o + n) (bs.getD n 0) = putC R o (n + 1) bs := by
  have hb : (put1 (putC R o n bs) (o + n) (bs.getD n 0)).b = (putC R o (n + 1) bs).b := by
    funext j
    show (if j = o + n then bs.getD n 0 else if o ≤ j ∧ j < o + n then bs.getD (j - o) 0 else R.b j) = if o ≤ j ∧ j < o + (n + 1) then bs.getD (j - o) 0 else R.b j
    by_cases e : j = o + n
    · subst e
      rw [if_pos rfl, if_pos (by omega), show o + n - o = n by omega]
    · rw [if_neg e]
      by_cases h : o ≤ j ∧ j < o + n
      · rw [if_pos h, if_pos (by omega)]
      · rw [if_neg h, if_neg (by omega)]
  have hs : (put1 (putC R o n bs) (o + n) (bs.getD n 0)).set = (putC R o (n + 1) bs).set := by
    funext j
    show (if j = o + n then true else if o ≤ j ∧ j < o + n then true else R.set j) = if o ≤ j ∧ j < o + (n + 1) then true else R.set j
    by_cases e : j = o + n
    · subst e
      rw [if_pos rfl, if_pos (by omega)]
    · rw [if_neg e]
      by_cases h : o ≤ j ∧ j < o + n
      · rw [if_pos h, if_pos (by omega)]
      · rw [if_neg h, if_neg (by omega)]
  have hw : (put1 (putC R o n bs) (o + n) (bs.getD n 0)).whole = (putC R o (n + 1) bs).whole := by
    funext g
    show (if g = (o + n) / 8 ∧ ((putC R o n bs).whole g).k ≠ 0 then c0 else (putC R o n bs).whole g) = if o < 8 * g + 8 ∧ 8 * g < o + (n + 1) ∧ 0 < n + 1 then (if (R.whole g).k = 0 then R.whole g else c0) else R.whole g
    obtain ⟨X, hX⟩ : ∃ X, X = (putC R o n bs).whole g := ⟨_, rfl⟩
    rw [← hX]
    have hX2 : X = if o < 8 * g + 8 ∧ 8 * g < o + n ∧ 0 < n then (if (R.whole g).k = 0 then R.whole g else c0) else R.whole g := hX
    clear hX
    by_cases h : o < 8 * g + 8 ∧ 8 * g < o + n ∧ 0 < n
    · rw [if_pos h] at hX2
      rw [if_pos (show o < 8 * g + 8 ∧ 8 * g < o + (n + 1) ∧ 0 < n + 1 by omega), ← hX2]
      refine if_neg (fun h2 => h2.2 ?_)
      rw [hX2]
      by_cases k0 : (R.whole g).k = 0
      · rw [if_pos k0]; exact k0
      · rw [if_neg k0]; rfl
    · rw [if_neg h] at hX2
      subst hX2
      by_cases e : g = (o + n) / 8
      · rw [if_pos (show o < 8 * g + 8 ∧ 8 * g < o + (n + 1) ∧ 0 < n + 1 by omega)]
        by_cases k0 : (R.whole g).k = 0
        · rw [if_pos k0, if_neg (fun h2 => h2.2 k0)]
        · rw [if_neg k0, if_pos ⟨e, k0⟩]
      · rw [if_neg (fun h2 => e h2.1), if_neg (show ¬ (o < 8 * g + 8 ∧ 8 * g < o + (n + 1) ∧ 0 < n + 1) by omega)]
  exact rstk_ext hb hs hw
theorem put_nums {o i m n : Nat} (hm : m = o + i) (hi : i < n) (hon : o + n ≤ 512) : (0 : Int) ≤ m ∧ (m : Int) / 8 < 64 ∧ (0 : Int) ≤ (m : Int) / 8 ∧ (m : Int) < 512 ∧ m < 512 ∧ m / 8 < 64 ∧ 1024 + (m / 8 * 4 + 0) < 1280 ∧ 512 + m < 1280 ∧ m < 1280 ∧ wrap64 ((o : Int) + i) = (m : Int) ∧ wrap64 ((i : Int) + 1) = (i : Int) + 1 := by
  refine ⟨by omega, by omega, by omega, by omega, by omega, by omega, by omega, by omega, by omega, ?_, ?_⟩
  · rw [wrap64]; omega
  · rw [wrap64]; omega
theorem rplace {i : Nat} (h : i < 1280) : i < 512 ∨ (∃ j, j < 512 ∧ i = 512 + j) ∨ ∃ k q, k < 64 ∧ q < 4 ∧ i = 1024 + (k * 4 + q) := by
  by_cases h1 : i < 512
  · exact .inl h1
  · by_cases h2 : i < 1024
    · exact .inr (.inl ⟨i - 512, by omega, by omega⟩)
    · exact .inr (.inr ⟨(i - 1024) / 4, (i - 1024) % 4, by omega, by omega, by omega⟩)
theorem put1_val0 (R : RStk) {m : Nat} {x : Int} (hm : m < 512) (h0 : (R.whole (m / 8)).k = 0) : ∀ i, i < 1280 → upd (upd R.val m (.int .u8 x)) (512 + m) (.bool true) i = (put1 R m x).val i := by
  intro i hi
  rcases rplace hi with h | ⟨j, hj, rfl⟩ | ⟨k, q, hk, hq, rfl⟩
  · rw [rval_b _ h]
    show _ = Value.int .u8 (if i = m then x else R.b i)
    simp only [upd]
    rw [if_neg (by omega)]
    by_cases e : i = m
    · rw [if_pos e, if_pos e]
    · rw [if_neg e, if_neg e, rval_b _ h]
  · rw [rval_set _ hj]
    show _ = Value.bool (if j = m then true else R.set j)
    simp only [upd]
    by_cases e : j = m
    · rw [if_pos e, if_pos (by omega)]
    · rw [if_neg e, if_neg (by omega), if_neg (by omega), rval_set _ hj]
  · rw [rval_whole _ hk hq]
    show _ = CV.at (if k = m / 8 ∧ (R.whole k).k ≠ 0 then c0 else R.whole k) q
    rw [if_neg (by rintro ⟨rfl, h⟩; exact h h0)]
    simp only [upd]
    rw [if_neg (by omega), if_neg (by omega), rval_whole _ hk hq]
theorem put1_val1 (R : RStk) {m : Nat} {x : Int} (hm : m < 512) (h0 : (R.whole (m / 8)).k ≠ 0) : ∀ i, i < 1280 → upd (upd (upd (upd (upd (upd R.val (1024 + m / 8 * 4) (.int .u8 0)) (1024 + m / 8 * 4 + 1) (.int .u64 0)) (1024 + m / 8 * 4 + 2) (.int .i64 0)) (1024 + m / 8 * 4 + 3) (.int .i64 0)) m (.int .u8 x)) (512 + m) (.bool true) i = (put1 R m x).val i := by
  intro i hi
  rcases rplace hi with h | ⟨j, hj, rfl⟩ | ⟨k, q, hk, hq, rfl⟩
  · rw [rval_b _ h]
    show _ = Value.int .u8 (if i = m then x else R.b i)
    simp only [upd]
    rw [if_neg (by omega)]
    by_cases e : i = m
    · rw [if_pos e, if_pos e]
    · rw [if_neg e, if_neg e, if_neg (by omega), if_neg (by omega), if_neg (by omega), if_neg (by omega), rval_b _ h]
  · rw [rval_set _ hj]
    show _ = Value.bool (if j = m then true else R.set j)
    simp only [upd]
    by_cases e : j = m
    · rw [if_pos e, if_pos (by omega)]
    · rw [if_neg e, if_neg (by omega), if_neg (by omega), if_neg (by omega), if_neg (by omega), if_neg (by omega), if_neg (by omega), rval_set _ hj]
  · rw [rval_whole _ hk hq]
    by_cases e : k = m / 8
    · subst e
      have hR : (put1 R m x).whole (m / 8) = c0 := if_pos ⟨rfl, h0⟩
      rw [hR]
      simp only [upd]
      rw [if_neg (by omega), if_neg (by omega)]
      match q, hq with
      | 0, _ => rw [if_neg (by omega), if_neg (by omega), if_neg (by omega), if_pos (by omega)]; rfl
      | 1, _ => rw [if_neg (by omega), if_neg (by omega), if_pos (by omega)]; rfl
      | 2, _ => rw [if_neg (by omega), if_pos (by omega)]; rfl
      | 3, _ => rw [if_pos (by omega)]; rfl
    · have hR : (put1 R m x).whole k = R.whole k := if_neg (fun h => e h.1)
      rw [hR]
      simp only [upd]
      rw [if_neg (by omega), if_neg (by omega), if_neg (by omega), if_neg (by omega), if_neg (by omega), if_neg (by omega), rval_whole _ hk hq]
end Go.Proofs.Ytmaeiifhmngllaa.M
namespace Go.Proofs.Ytmaeiifhmngllaa.M
open Go.RowKit
set_option linter.unusedVariables false
set_option linter.unusedSectionVars false
set_option linter.unusedSimpArgs false
theorem put_nums2 {o i n : Nat} (hi : i < n) (hon : o + n ≤ 512) : (0 : Int) ≤ (o : Int) + i ∧ (o : Int) + i < 512 ∧ ((o : Int) + i) / 8 < 64 ∧ (0 : Int) ≤ ((o : Int) + i) / 8 ∧ o + i < 512 ∧ (o + i) / 8 < 64 ∧ 1024 + ((o + i) / 8 * 4 + 0) < 1280 ∧ 512 + (o + i) < 1280 ∧ o + i < 1280 ∧ wrap64 ((o : Int) + i) = (o : Int) + i ∧ wrap64 ((i : Int) + 1) = (i : Int) + 1 := by
  refine ⟨by omega, by omega, by omega, by omega, by omega, by omega, by omega, by omega, by omega, ?_, ?_⟩
  · rw [wrap64]; omega
  · rw [wrap64]; omega
def clr1 (R : RStk) (m : Nat) : RStk := { R with whole := fun g => if g = m / 8 ∧ (R.whole g).k ≠ 0 then c0 else R.whole g }
def bset1 (R : RStk) (m : Nat) (x : Int) : RStk := { R with b := fun j => if j = m then x else R.b j, set := fun j => if j = m then true else R.set j }
theorem put1_eq (R : RStk) (m : Nat) (x : Int) : bset1 (clr1 R m) m x = put1 R m x := rfl
theorem clr1_id (R : RStk) {m : Nat} (h : (R.whole (m / 8)).k = 0) : clr1 R m = R := by
  have hw : (fun g => if g = m / 8 ∧ (R.whole g).k ≠ 0 then c0 else R.whole g) = R.whole := funext fun g => if_neg (fun x => x.2 (x.1 ▸ h))
  unfold clr1
  rw [hw]
theorem clr1_val (R : RStk) {m : Nat} (hm : m < 512) (h0 : (R.whole (m / 8)).k ≠ 0) : ∀ i, i < 1280 → upd (upd (upd (upd R.val (1024 + m / 8 * 4) (.int .u8 0)) (1024 + m / 8 * 4 + 1) (.int .u64 0)) (1024 + m / 8 * 4 + 2) (.int .i64 0)) (1024 + m / 8 * 4 + 3) (.int .i64 0) i = (clr1 R m).val i := by
  intro i hi
  rcases rplace hi with h | ⟨j, hj, rfl⟩ | ⟨k, q, hk, hq, rfl⟩
  · rw [rval_b _ h]
    simp only [upd]
    rw [if_neg (by omega), if_neg (by omega), if_neg (by omega), if_neg (by omega), rval_b _ h]
    rfl
  · rw [rval_set _ hj]
    simp only [upd]
    rw [if_neg (by omega), if_neg (by omega), if_neg (by omega), if_neg (by omega), rval_set _ hj]
    rfl
  · rw [rval_whole _ hk hq]
    by_cases e : k = m / 8
    · subst e
      have hR : (clr1 R m).whole (m / 8) = c0 := if_pos ⟨rfl, h0⟩
      rw [hR]
      simp only [upd]
      match q, hq with
      | 0, _ => rw [if_neg (by omega), if_neg (by omega), if_neg (by omega), if_pos (by omega)]; rfl
      | 1, _ => rw [if_neg (by omega), if_neg (by omega), if_pos (by omega)]; rfl
      | 2, _ => rw [if_neg (by omega), if_pos (by omega)]; rfl
      | 3, _ => rw [if_pos (by omega)]; rfl
    · have hR : (clr1 R m).whole k = R.whole k := if_neg (fun h => e h.1)
      rw [hR]
      simp only [upd]
      rw [if_neg (by omega), if_neg (by omega), if_neg (by omega), if_neg (by omega), rval_whole _ hk hq]
theorem bset1_val (R : RStk) {m : Nat} {x : Int} (hm : m < 512) : ∀ i, i < 1280 → upd (upd R.val m (.int .u8 x)) (512 + m) (.bool true) i = (bset1 R m x).val i := by
  intro i hi
  rcases rplace hi with h | ⟨j, hj, rfl⟩ | ⟨k, q, hk, hq, rfl⟩
  · rw [rval_b _ h]
    show _ = Value.int .u8 (if i = m then x else R.b i)
    simp only [upd]
    rw [if_neg (by omega)]
    by_cases e : i = m
    · rw [if_pos e, if_pos e]
    · rw [if_neg e, if_neg e, rval_b _ h]
  · rw [rval_set _ hj]
    show _ = Value.bool (if j = m then true else R.set j)
    simp only [upd]
    by_cases e : j = m
    · rw [if_pos e, if_pos (by omega)]
    · rw [if_neg e, if_neg (by omega), if_neg (by omega), rval_set _ hj]
  · rw [rval_whole _ hk hq]
    simp only [upd]
    rw [if_neg (by omega), if_neg (by omega), rval_whole _ hk hq]
    rfl
theorem put_nums3 {m : Nat} (h : m < 512) : 1024 + m / 8 * 4 + 1 < 1280 ∧ 1024 + m / 8 * 4 + 2 < 1280 ∧ 1024 + m / 8 * 4 + 3 < 1280 := by omega
set_option maxRecDepth 100000 in
set_option maxHeartbeats 4000000 in
theorem putR_c (P o : Nat) (R : RStk) (a : Option Addr) (c : Nat) (bs : List Int) (w : World) (hon : o + bs.length ≤ 512) (hB : Blk w P 36 1280 R.val) (hs : Sees w (.slice a bs.length c) (u8s bs)) (hP : ∀ ad, a = some ad → bs ≠ [] → ad.block ≠ P) :
    Calls Try.prog 35 #[.pointer (some ⟨P, 0, none⟩), .int .i64 (o : Int), .slice a bs.length c] w fun e w' => e = .returned (.tuple #[]) ∧ Blk w' P 36 1280 (putC R o bs.length bs).val ∧ But [P] w w' := by
  have HB := Lib.hid hB
  have HS := Lib.hid hs
  have HP := Lib.hid hP
  clear hB hs hP
  go_enter Try.func35, Try.ntmps35
  go_wp2_with fail
  go_loopw [6] (fun i wr => ∃ j : Nat, j ≤ bs.length ∧ i = .int .i64 j ∧ Blk wr P 36 1280 (putC R o j bs).val ∧ But [P] w wr) (fun i _ => bs.length - (intOf i).toNat)
  case atStart => exact ⟨0, by omega, rfl, by rw [putC_zero]; exact HB.out, But.refl _ _⟩
  case round =>
    obtain ⟨i, hi, rfl, hb, hbw⟩ := hrel
    have HBT := Lib.hid hbw
    have hi0 : (0 : Int) ≤ i := by omega
    by_cases hlt : i < bs.length
    · have hi1 : (i : Int) < bs.length := by omega
      obtain ⟨q0, q1, q2, q3, hm5, hm8, hp1, hp2, hp3, hwm, hw1⟩ := put_nums2 hlt hon
      obtain ⟨a', c', he, hx⟩ := sees_shape HS.out
      simp only [Value.slice.injEq] at he
      obtain ⟨rfl, -, -⟩ := he
      obtain ⟨x, hxx⟩ : ∃ x, x = bs.getD i 0 := ⟨_, rfl⟩
      obtain ⟨ad, rfl, hcx⟩ := hx i (.int .u8 x) (by unfold u8s; rw [List.getElem?_map, List.getElem?_eq_getElem hlt, hxx, List.getD_eq_getElem?_getD, List.getElem?_eq_getElem hlt]; rfl)
      have hne := HP.out ad rfl (by intro e; rw [e] at hlt; simp at hlt)
      have HCX : Hid (∀ wz, But [P] w wz → wz.cell? (ad.add i) = some (.int .u8 x)) := Lib.hid fun wz h => cell_but h hcx (by rw [block_of_add]; simpa using hne)
      obtain ⟨R', hR'⟩ : ∃ R', R' = putC R o i bs := ⟨_, rfl⟩
      rw [← hR'] at hb
      have HR : Hid (bset1 (clr1 R' (o + i)) (o + i) x = putC R o (i + 1) bs) := Lib.hid (by rw [put1_eq, hR', hxx]; exact put1_more R o i bs (fun _ _ => rfl))
      have HBW := Lib.hid hb
      have k0 : wr.cell? ⟨P, 1024 + (o + i) / 8 * 4, none⟩ = some (.int .u8 (R'.whole ((o + i) / 8)).k) := HBW.out.cell' (i := 1024 + ((o + i) / 8 * 4 + 0)) hp1 (rval_whole R' hm8 (by decide))
      have HM5 := Lib.hid hm5
      have HP2 := Lib.hid hp2
      have HP3 := Lib.hid hp3
      clear hb hbw hcx hx hne hxx hR' hp1 hp2 hp3 hm8 hm5
      go_upto_if 25 with fail
      go_cut [] (fun wx => Blk wx P 36 1280 (clr1 R' (o + i)).val ∧ But [P] w wx)
      case first =>
        by_cases hk : (R'.whole ((o + i) / 8)).k = 0
        · have hkz : ((R'.whole ((o + i) / 8)).k == 0) = true := by simpa using hk
          have HC : Hid (clr1 R' (o + i) = R') := Lib.hid (clr1_id R' hk)
          clear k0 hk
          go_wp2_with fail
          go_meet
          rw [HC.out]
          exact ⟨HBW.out, HBT.out⟩
        · have hkz : ((R'.whole ((o + i) / 8)).k == 0) = false := by simpa using hk
          have HC := Lib.hid (Blk.congr ((((HBW.out.set (1024 + (o + i) / 8 * 4) (.int .u8 0)).set (1024 + (o + i) / 8 * 4 + 1) (.int .u64 0)).set (1024 + (o + i) / 8 * 4 + 2) (.int .i64 0)).set (1024 + (o + i) / 8 * 4 + 3) (.int .i64 0)) (clr1_val R' HM5.out hk))
          have hp := put_nums3 HM5.out
          have e1 := HBW.out.cell (i := 1024 + (o + i) / 8 * 4 + 1) hp.1
          have e2 := HBW.out.cell (i := 1024 + (o + i) / 8 * 4 + 2) hp.2.1
          have e3 := HBW.out.cell (i := 1024 + (o + i) / 8 * 4 + 3) hp.2.2
          have f0 := HBW.out.frozen (1024 + (o + i) / 8 * 4)
          have f1 := HBW.out.frozen (1024 + (o + i) / 8 * 4 + 1)
          have f2 := HBW.out.frozen (1024 + (o + i) / 8 * 4 + 2)
          have f3 := HBW.out.frozen (1024 + (o + i) / 8 * 4 + 3)
          clear hk hp
          go_wp2_with fail
          go_meet
          exact ⟨HC.out, ((((HBT.out.setCell (.inl (by simp)) _).setCell (.inl (by simp)) _).setCell (.inl (by simp)) _).setCell (.inl (by simp)) _)⟩
      case rest =>
        obtain ⟨hB1, hb1⟩ := hcut
        have HB1 := Lib.hid hB1
        have HBX := Lib.hid hb1
        have cx := HCX.out wc hb1
        have cb : wc.cell? ⟨P, o + i, none⟩ = some (.int .u8 ((clr1 R' (o + i)).b (o + i))) := HB1.out.cell' HP3.out (rval_b _ HM5.out)
        have cs : wc.cell? ⟨P, 512 + (o + i), none⟩ = some (.bool ((clr1 R' (o + i)).set (o + i))) := HB1.out.cell' HP2.out (rval_set _ HM5.out)
        have fb := HB1.out.frozen (o + i)
        have fs := HB1.out.frozen (512 + (o + i))
        have HV := Lib.hid (Blk.congr ((HB1.out.set (o + i) (.int .u8 x)).set (512 + (o + i)) (.bool true)) (bset1_val (clr1 R' (o + i)) HM5.out))
        have HV2 := Lib.hid ((HBX.out.setCell (p := ⟨P, o + i, none⟩) (.inl (by simp)) (.int .u8 x)).setCell (p := ⟨P, 512 + (o + i), none⟩) (.inl (by simp)) (.bool true))
        clear hB1 hb1 k0 hlt
        go_upto_region 6 with fail
        refine wp_region_tail9 9 (by kernel_rfl) (by kernel_rfl) ?_
        simp only [List.take_succ_cons, List.take_zero, List.drop_succ_cons, List.drop_zero]
        repeat still_step
        refine wpStill_nil ?_
        go_wp2_with fail
        all_goals
          go_roundw
          case rel =>
            refine ⟨i + 1, by omega, by go_num, ?_, ?_⟩
            · rw [← HR.out]
              exact HV.out.but ((But.refl [] _).drew) (by simp)
            · exact HV2.out.drew
          case measure => simp [intOf]; omega
    · have HBW := Lib.hid hb
      clear hb hbw
      obtain rfl : i = bs.length := by omega
      go_wp2_with fail
      go_end0
      exact ⟨rfl, HBW.out, HBT.out⟩
end Go.Proofs.Ytmaeiifhmngllaa.M
namespace Go.Proofs.Ytmaeiifhmngllaa.M
open Go.RowKit
set_option linter.unusedVariables false
set_option linter.unusedSectionVars false
set_option linter.unusedSimpArgs false
def ByteR (R : RStk) : Prop := ∀ a, a < 512 → 0 ≤ R.b a ∧ R.b a ≤ 255
structure Rel (S : Stk) (R : RStk) : Prop where
  inv : Inv S
  whole : ∀ g, g < 64 → R.whole g = S.whole g
  set : ∀ a, a < 512 → R.set a = S.bit a
  byte : ∀ a, a < 512 → S.bit a = true → R.b a = S.byte a
  rng : ByteR R
def R0 : RStk := ⟨fun _ => 0, fun _ => false, fun _ => c0⟩
theorem rel_0 : Rel S0 R0 where
  inv := s0_inv
  whole := fun _ _ => rfl
  set := fun a _ => (bit_zero _).symm
  byte := fun a _ _ => rfl
  rng := fun a _ => ⟨Int.le_refl 0, by show (0 : Int) ≤ 255; omega⟩
theorem Rel.bit_none {S : Stk} {R : RStk} (h : Rel S R) {a : Nat} (ha : a < 512) (hb : S.bit a = true) : (S.whole (a / 8)).k = 0 := by
  apply Classical.byContradiction
  intro hk
  have h1 := h.inv.unset (a / 8) (by omega) hk
  unfold Stk.bit at hb
  rw [h1, bit_zero] at hb
  cases hb
theorem cnt_in {o n g : Nat} : (o / 8 ≤ g ∧ g < o / 8 + cntP o n) ↔ (o < 8 * g + 8 ∧ 8 * g < o + n ∧ 0 < n) := by
  constructor
  · rintro ⟨h1, h2⟩
    have h4 := cnt_at.1 (show g - o / 8 < cntP o n by omega)
    unfold atP at h4
    omega
  · rintro ⟨h1, h2, h3⟩
    have h4 : g - o / 8 < cntP o n := cnt_at.2 (by unfold atP; omega)
    omega
theorem Rel.wr {S S' : Stk} {R : RStk} {o : Nat} {bs : List Int} (h : Rel S R) (hbs : ByteL bs) (hw : WrSpec S S' o bs.length bs.length (cntP o bs.length) bs) : Rel S' (putC R o bs.length bs) where
  inv := hw.inv
  whole := fun g hg => by
    show (if o < 8 * g + 8 ∧ 8 * g < o + bs.length ∧ 0 < bs.length then (if (R.whole g).k = 0 then R.whole g else c0) else R.whole g) = _
    rw [hw.whole, h.whole g hg]
    by_cases e : o < 8 * g + 8 ∧ 8 * g < o + bs.length ∧ 0 < bs.length
    · rw [if_pos e, if_pos (cnt_in.2 e)]
    · rw [if_neg e, if_neg (fun x => e (cnt_in.1 x))]
  set := fun a ha => by
    show (if o ≤ a ∧ a < o + bs.length then true else R.set a) = _
    rw [hw.bit a ha, h.set a ha]
    by_cases e : o ≤ a ∧ a < o + bs.length
    · rw [if_pos e, decide_eq_true e]; rfl
    · rw [if_neg e, decide_eq_false e]; rfl
  byte := fun a ha hb => by
    show (if o ≤ a ∧ a < o + bs.length then bs.getD (a - o) 0 else R.b a) = _
    rw [hw.bit a ha] at hb
    rw [hw.byte]
    by_cases e : o ≤ a ∧ a < o + bs.length
    · rw [if_pos e, if_pos e]
    · rw [if_neg e, if_neg e]
      rw [decide_eq_false e, Bool.false_or] at hb
      rw [if_neg (fun x => x.2 (h.bit_none ha hb)), h.byte a ha hb]
  rng := fun a ha => by
    show 0 ≤ (if o ≤ a ∧ a < o + bs.length then bs.getD (a - o) 0 else R.b a) ∧ (if o ≤ a ∧ a < o + bs.length then bs.getD (a - o) 0 else R.b a) ≤ 255
    by_cases e : o ≤ a ∧ a < o + bs.length
    · rw [if_pos e, List.getD_eq_getElem?_getD, List.getElem?_eq_getElem (by omega)]
      exact hbs _ (List.getElem_mem _)
    · rw [if_neg e]
      exact h.rng a ha
/-- A cell is stored whole. -/
def setR (R : RStk) (g : Nat) (c : CV) : RStk where
  b := R.b
  set := fun j => if 8 * g ≤ j ∧ j < 8 * g + 8 then false else R.set j
  whole := fun j => if j = g then c else R.whole j
theorem Rel.setG {S : Stk} {R : RStk} (h : Rel S R) {g : Nat} {c : CV} (hc : c.k ≠ 0) : Rel (setG S g c) (setR R g c) where
  inv := setg_inv h.inv hc
  whole := fun j hj => by
    show (if j = g then c else R.whole j) = if j = g then c else S.whole j
    rw [h.whole j hj]
  set := fun a ha => by
    show (if 8 * g ≤ a ∧ a < 8 * g + 8 then false else R.set a) = bitB (if a / 8 = g then 0 else S.set (a / 8)) (a % 8)
    by_cases e : a / 8 = g
    · rw [if_pos e, if_pos (by omega), bit_zero]
    · rw [if_neg e, if_neg (by omega), h.set a ha]; rfl
  byte := fun a ha hb => by
    have hb' : bitB (if a / 8 = g then 0 else S.set (a / 8)) (a % 8) = true := hb
    show R.b a = if a / 8 = g then 0 else S.byte a
    by_cases e : a / 8 = g
    · rw [if_pos e, bit_zero] at hb'; cases hb'
    · rw [if_neg e] at hb' ⊢
      exact h.byte a ha hb'
  rng := h.rng
def storeRS (R : RStk) (off n : Int) (c : CV) : RStk :=
  if storeE off n c ≠ 0 then R
  else if c.k = 1 then putC R off.toNat n.toNat (wordBs c.w n.toNat) else setR R (off.toNat / 8) c
def writeRS (R : RStk) (off : Int) (bs : List Int) : RStk := if writeE off bs.length = 0 then putC R off.toNat bs.length bs else R
theorem Rel.store {S : Stk} {R : RStk} (h : Rel S R) (off n : Int) (c : CV) : Rel (storeS S off n c) (storeRS R off n c) := by
  by_cases h0 : storeE off n c = 0
  · obtain ⟨h1, h2, h3⟩ := storeE_ok h0
    rcases storeS_cases S off n c with he | ⟨_, _, _, _, _, ⟨k1, he⟩ | ⟨k0, k1, e8, h8, he⟩⟩
    · -- the very same equation decides nothing: look at the cell's kind
      unfold storeRS
      rw [if_neg (by simp [h0])]
      by_cases k1 : c.k = 1
      · rw [if_pos k1]
        have hs := wr_all h.inv (wordBs_byte c.w n.toNat) (o := off.toNat) (by rw [wordBs_len]; omega)
        have hr := h.wr (wordBs_byte c.w n.toNat) hs
        rw [wordBs_len] at hr
        have e2 : storeS S off n c = wrL S off.toNat (wordBs c.w n.toNat) (List.range (cntP off.toNat n.toNat)) := by unfold storeS; rw [if_neg (by simp [h0]), if_pos k1]
        rw [e2]
        exact hr
      · rw [if_neg k1]
        have e2 : storeS S off n c = M.setG S (off.toNat / 8) c := by unfold storeS; rw [if_neg (by simp [h0]), if_neg k1]
        rw [e2]
        refine h.setG (fun k0 => ?_)
        have h5 := h0
        unfold storeE at h5
        by_cases hE : checkE off n (sizeB n && rightB c) = 0
        · rw [if_neg (by simp [hE]), if_pos k0] at h5; cases h5
        · rw [if_pos hE] at h5; exact hE h5
    · rw [he]
      unfold storeRS
      rw [if_neg (by simp [h0]), if_pos k1]
      have hs := wr_all h.inv (wordBs_byte c.w n.toNat) (o := off.toNat) (by rw [wordBs_len]; omega)
      have hr := h.wr (wordBs_byte c.w n.toNat) hs
      rw [wordBs_len] at hr
      exact hr
    · rw [he]
      unfold storeRS
      rw [if_neg (by simp [h0]), if_neg k1]
      exact h.setG k0
  · unfold storeS storeRS
    rw [if_pos h0, if_pos h0]
    exact h
theorem Rel.write {S : Stk} {R : RStk} (h : Rel S R) (off : Int) {bs : List Int} (hb : ByteL bs) : Rel (writeS S off bs) (writeRS R off bs) := by
  unfold writeS writeRS
  by_cases h0 : writeE off bs.length = 0
  · rw [if_pos h0, if_pos h0]
    unfold writeE at h0
    obtain ⟨hm, h1, h2⟩ := checkE_ok h0
    exact h.wr hb (wr_all h.inv hb (o := off.toNat) (by omega))
  · rw [if_neg h0, if_neg h0]
    exact h
def bitsR (R : RStk) (o n : Nat) : Bool := (List.range n).all fun i => R.set (o + i)
def rowR (R : RStk) (o n : Nat) : List Int := (List.range n).map fun i => R.b (o + i)
theorem bitsR_iff {R : RStk} {o n : Nat} : bitsR R o n = true ↔ ∀ i, i < n → R.set (o + i) = true := by
  unfold bitsR
  rw [List.all_eq_true]
  exact ⟨fun h i hi => h i (List.mem_range.2 hi), fun h i hi => h i (List.mem_range.1 hi)⟩
theorem Rel.bits {S : Stk} {R : RStk} (h : Rel S R) {o n : Nat} (hon : o + n ≤ 512) : bitsR R o n = bitsOn S o n := by
  rw [Bool.eq_iff_iff, bitsR_iff, bitsOn_iff]
  exact ⟨fun k i hi => by rw [← h.set _ (by omega)]; exact k i hi, fun k i hi => by rw [h.set _ (by omega)]; exact k i hi⟩
theorem Rel.row {S : Stk} {R : RStk} (h : Rel S R) {o n : Nat} (hon : o + n ≤ 512) (hb : bitsOn S o n = true) : rowR R o n = rowB S o n := by
  unfold rowR rowB
  refine List.map_congr_left fun i hi => ?_
  have hi := List.mem_range.1 hi
  exact h.byte _ (by omega) (bitsOn_iff.1 hb i hi)
def wholeAtR (R : RStk) (off n : Int) : Bool := decide (n = 8 ∧ off % 8 = 0 ∧ (R.whole (off / 8).toNat).k ≠ 0)
def loadER (R : RStk) (off n : Int) : Int := if checkE off n (sizeB n) ≠ 0 then checkE off n (sizeB n) else if wholeAtR R off n = true ∨ bitsR R off.toNat n.toNat = true then 0 else 30
def loadVR (R : RStk) (off n : Int) : CV := if loadER R off n ≠ 0 then c0 else if wholeAtR R off n = true then R.whole (off / 8).toNat else ⟨1, leV (rowR R off.toNat n.toNat), 0, 0⟩
def readER (R : RStk) (off n : Int) : Int := if checkE off n (readMay n) ≠ 0 then checkE off n (readMay n) else if bitsR R off.toNat n.toNat then 0 else 30
def readRowR (R : RStk) (off n : Int) : List Int := if readER R off n = 0 then rowR R off.toNat n.toNat else []
theorem Rel.load {S : Stk} {R : RStk} (h : Rel S R) (off n : Int) : loadER R off n = loadE S off n ∧ loadVR R off n = loadV S off n := by
  by_cases hE : checkE off n (sizeB n) = 0
  · obtain ⟨hs, h1, h2⟩ := checkE_ok hE
    obtain ⟨h3, h4⟩ := size_cases hs
    have hwh : R.whole (off / 8).toNat = S.whole (off / 8).toNat ∨ ¬ (off / 8).toNat < 64 := by
      by_cases e : (off / 8).toNat < 64
      · exact .inl (h.whole _ e)
      · exact .inr e
    have hw : wholeAtR R off n = wholeAt S off n := by
      unfold wholeAtR wholeAt
      by_cases e : n = 8
      · rw [h.whole (off / 8).toNat (by omega)]
      · rw [decide_eq_false (fun x => e x.1), decide_eq_false (fun x => e x.1)]
    have hb : bitsR R off.toNat n.toNat = bitsOn S off.toNat n.toNat := h.bits (by omega)
    have he : loadER R off n = loadE S off n := by unfold loadER loadE; rw [hw, hb]
    refine ⟨he, ?_⟩
    unfold loadVR loadV
    rw [he, hw]
    by_cases h5 : loadE S off n = 0
    · rw [if_neg (show ¬ (loadE S off n ≠ 0) from fun x => x h5), if_neg (show ¬ (loadE S off n ≠ 0) from fun x => x h5)]
      by_cases h6 : wholeAt S off n = true
      · rw [if_pos h6, if_pos h6]
        have h7 := of_decide_eq_true h6
        exact h.whole _ (by omega)
      · rw [if_neg h6, if_neg h6, h.row (by omega) ?_]
        unfold loadE at h5
        rw [if_neg (by simp [hE])] at h5
        by_cases h8 : wholeAt S off n = true ∨ bitsOn S off.toNat n.toNat = true
        · exact h8.resolve_left h6
        · rw [if_neg h8] at h5; cases h5
    · rw [if_pos h5, if_pos h5]
  · have he : loadER R off n = loadE S off n := by unfold loadER loadE; rw [if_pos hE, if_pos hE]
    refine ⟨he, ?_⟩
    have h5 : loadE S off n ≠ 0 := by unfold loadE; rw [if_pos hE]; exact hE
    unfold loadVR loadV
    rw [he, if_pos h5, if_pos h5]
theorem Rel.read {S : Stk} {R : RStk} (h : Rel S R) (off n : Int) : readER R off n = readE S off n ∧ readRowR R off n = readRow S off n := by
  by_cases hE : checkE off n (readMay n) = 0
  · obtain ⟨hs, h1, h2⟩ := checkE_ok hE
    have h3 := of_decide_eq_true hs
    have hb : bitsR R off.toNat n.toNat = bitsOn S off.toNat n.toNat := h.bits (by omega)
    have he : readER R off n = readE S off n := by unfold readER readE; rw [hb]
    refine ⟨he, ?_⟩
    unfold readRowR readRow
    rw [he]
    by_cases h5 : readE S off n = 0
    · rw [if_pos h5, if_pos h5]
      refine h.row (by omega) ?_
      unfold readE at h5
      rw [if_neg (by simp [hE])] at h5
      by_cases h8 : bitsOn S off.toNat n.toNat = true
      · exact h8
      · rw [if_neg h8] at h5; cases h5
    · rw [if_neg h5, if_neg h5]
  · have he : readER R off n = readE S off n := by unfold readER readE; rw [if_pos hE, if_pos hE]
    refine ⟨he, ?_⟩
    have h5 : readE S off n ≠ 0 := by unfold readE; rw [if_pos hE]; exact hE
    unfold readRowR readRow
    rw [he, if_neg h5, if_neg h5]
end Go.Proofs.Ytmaeiifhmngllaa.M
namespace Go.Proofs.Ytmaeiifhmngllaa.M
open Go.RowKit
set_option linter.unusedVariables false
set_option linter.unusedSectionVars false
set_option linter.unusedSimpArgs false
theorem bitsR_no {R : RStk} {o n j : Nat} (hj : j < n) (h : R.set (o + j) = false) : bitsR R o n = false := by
  rw [Bool.eq_false_iff]
  intro hb
  rw [bitsR_iff.1 hb j hj] at h
  cases h
set_option maxRecDepth 100000 in
set_option maxHeartbeats 1000000 in
theorem allR_c (P o n : Nat) (R : RStk) (w : World) (hon : o + n ≤ 512) (hB : Blk w P 36 1280 R.val) :
    Calls Try.prog 32 #[.pointer (some ⟨P, 0, none⟩), .int .i64 (o : Int), .int .i64 (n : Int)] w fun e w' => e = .returned (.bool (bitsR R o n)) ∧ w = w' := by
  have HB := Lib.hid hB
  clear hB
  have hn0 : (0 : Int) ≤ n := by omega
  go_enter Try.func32, Try.ntmps32
  go_wp2_with fail
  go_loop [7] (fun i => ∃ k : Nat, k ≤ n ∧ i = .int .i64 k ∧ ∀ j, j < k → R.set (o + j) = true) (fun i => n - (intOf i).toNat)
  case atStart => exact ⟨0, by omega, rfl, fun j hj => by omega⟩
  case round =>
    obtain ⟨k, hk, rfl, hall⟩ := hrel
    have HA := Lib.hid hall
    clear hall
    have hk0 : (0 : Int) ≤ k := by omega
    by_cases hlt : k < n
    · have hk1 : (k : Int) < n := by omega
      obtain ⟨q0, q1, -, -, hm5, -, -, hp2, -, hwm, hw1⟩ := put_nums2 hlt hon
      have cs : w.cell? ⟨P, 512 + (o + k), none⟩ = some (.bool (R.set (o + k))) := HB.out.cell' hp2 (rval_set R hm5)
      cases hb : R.set (o + k) with
      | false =>
        rw [hb] at cs
        have HE := Lib.hid (bitsR_no hlt hb)
        clear hb hlt hm5 hp2
        go_wp2_with fail
        go_ret
        exact ⟨by rw [HE.out]; rfl, rfl⟩
      | true =>
        rw [hb] at cs
        have HN : Hid (∀ j, j < k + 1 → R.set (o + j) = true) := Lib.hid fun j hj => by
          by_cases e : j = k
          · subst e; exact hb
          · exact HA.out j (by omega)
        clear hb hlt hm5 hp2
        go_wp2_with fail
        go_round
        case rel => exact ⟨k + 1, by omega, by go_num, HN.out⟩
        case measure => simp [intOf]; omega
    · obtain rfl : k = n := by omega
      have HE : Hid (bitsR R o k = true) := Lib.hid (bitsR_iff.2 HA.out)
      go_wp2_with fail
      go_ret
      exact ⟨by rw [HE.out]; rfl, rfl⟩
set_option maxHeartbeats 1000000 in
theorem WriteR_c (P : Nat) (R : RStk) (off : Int) (a : Option Addr) (c : Nat) (bs : List Int) (w : World) (hB : Blk w P 36 1280 R.val) (hs : Sees w (.slice a bs.length c) (u8s bs)) (hP : ∀ ad, a = some ad → bs ≠ [] → ad.block ≠ P) (hl : bs.length ≤ 1000000000000) :
    Calls Try.prog 20 #[.pointer (some ⟨P, 0, none⟩), .int .i64 off, .slice a bs.length c] w fun e w' => e = .returned (.int .i64 (writeE off bs.length)) ∧ Blk w' P 36 1280 (writeRS R off bs).val ∧ But [P] w w' := by
  have hl0 : (0 : Int) ≤ bs.length := by omega
  by_cases h1 : bs.length ≤ 512
  · have h1' : (bs.length : Int) ≤ 512 := by omega
    have HT := Lib.hid (thereR off bs.length w hl0 h1')
    by_cases h2 : 0 ≤ off ∧ off ≤ 512 - (bs.length : Int)
    · obtain ⟨o, rfl⟩ := Int.eq_ofNat_of_zero_le h2.1
      have hwe : writeE o bs.length = 0 := by unfold writeE checkE; rw [decide_eq_true h1, if_pos rfl, if_pos h2]
      have HD : Hid (decide (0 ≤ (o : Int) ∧ (o : Int) ≤ 512 - (bs.length : Int)) = true) := Lib.hid (decide_eq_true h2)
      have HWE := Lib.hid hwe
      have HWS : Hid (writeRS R o bs = putC R o bs.length bs) := Lib.hid (by unfold writeRS; rw [if_pos hwe]; rfl)
      have HWR := Lib.hid (putR_c P o R a c bs w (by omega) hB hs hP)
      have hd : ¬ ((512 : Int) < bs.length) := by omega
      clear hB hs hP hwe h1 h2
      go_enter Try.func20, Try.ntmps20
      go_wp2_with fail
      refine HT.out.mono ?_
      rintro e w1 ⟨rfl, rfl⟩
      rw [HD.out]
      go_wp2_with fail
      refine HWR.out.mono ?_
      rintro e w2 ⟨rfl, hb2, hbt⟩
      have HB2 := Lib.hid hb2
      have HBT := Lib.hid hbt
      clear hb2 hbt
      go_wp2_with fail
      go_ret
      exact ⟨by rw [HWE.out]; rfl, by rw [HWS.out]; exact HB2.out, HBT.out⟩
    · have hwe : writeE off bs.length = 32 := by unfold writeE checkE; rw [decide_eq_true h1, if_pos rfl, if_neg h2]
      have HD : Hid (decide (0 ≤ off ∧ off ≤ 512 - (bs.length : Int)) = false) := Lib.hid (decide_eq_false h2)
      have HWE := Lib.hid hwe
      have HWS : Hid (writeRS R off bs = R) := Lib.hid (by unfold writeRS; rw [if_neg (by rw [hwe]; decide)])
      have HB := Lib.hid hB
      clear hB hs hP hwe h1 h2
      go_enter Try.func20, Try.ntmps20
      go_wp2_with fail
      refine HT.out.mono ?_
      rintro e w1 ⟨rfl, rfl⟩
      rw [HD.out]
      go_wp2_with fail
      go_ret
      exact ⟨by rw [HWE.out]; rfl, by rw [HWS.out]; exact HB.out, But.refl _ _⟩
  · have h1' : (512 : Int) < bs.length := by omega
    have hwe : writeE off bs.length = 2 := by unfold writeE; rw [decide_eq_false h1]; rfl
    have HWE := Lib.hid hwe
    have HWS : Hid (writeRS R off bs = R) := Lib.hid (by unfold writeRS; rw [if_neg (by rw [hwe]; decide)])
    have HB := Lib.hid hB
    clear hB hs hP hwe h1
    go_enter Try.func20, Try.ntmps20
    go_wp2_with fail
    go_ret
    exact ⟨by rw [HWE.out]; rfl, by rw [HWS.out]; exact HB.out, But.refl _ _⟩
/-- A row that is laid anew: an append to none. -/
theorem freshR {w0 wA w5 : World} {e : TypeId} {v' : Value} {xs : List Value} (hb0 : But [] w0 wA) (hz : w0.heap.size < wA.heap.size) (hap : Appended wA w5 e (.slice (some ⟨w0.heap.size, 0, none⟩) 0 0) v' [] xs) : ∃ a c, v' = .slice a xs.length c ∧ OwnQ w5 e (.slice a xs.length c) xs ∧ (∀ b, (Value.slice a xs.length c).ownBlock = some b → w0.heap.size ≤ b) ∧ But [] w0 w5 := by
  obtain ⟨hq, hc⟩ := hap
  rw [List.nil_append] at hq
  obtain ⟨a', c', rfl⟩ := hq.form
  refine ⟨a', c', rfl, hq, ?_⟩
  rcases hc with ⟨a2, cap, e1, e2, _, hb⟩ | ⟨hn, hb⟩
  · simp only [Value.slice.injEq] at e1 e2
    obtain ⟨rfl, _, rfl⟩ := e1
    obtain ⟨rfl, _, rfl⟩ := e2
    exact ⟨fun b hb' => by cases hb'; exact Nat.le_refl _, hb0.trans hb (fun x hx => .inr (by simp [Value.ownBlock] at hx; omega))⟩
  · refine ⟨fun b hb' => ?_, hb0.trans hb (by simp)⟩
    rw [hn] at hb'
    cases hb'
    omega
theorem fresh_atR (w0 : World) (e : TypeId) : OwnQ (w0.alloc (.cells #[] e)) e (.slice (some ⟨w0.heap.size, 0, none⟩) 0 0) [] := .inr ⟨w0.heap.size, 0, 0, #[], rfl, al_at _ _, Nat.le_refl _, by unfold maxLen; omega, by simp, fun j u h => by simp at h⟩
theorem rowR_len (R : RStk) (o n : Nat) : (rowR R o n).length = n := by simp [rowR]
theorem readR_sees {w : World} {P o n : Nat} {R : RStk} (hB : Blk w P 36 1280 R.val) (hon : o + n ≤ 512) (c : Nat) (hc : n ≤ c) : Sees w (.slice (some ⟨P, o, none⟩) n c) (u8s (rowR R o n)) := by
  refine .inr ⟨⟨P, o, none⟩, c, by rw [u8s_len, rowR_len], by rw [u8s_len, rowR_len]; exact hc, fun q v hq => ?_⟩
  have hql := (List.getElem?_eq_some_iff.1 hq).1
  rw [u8s_len, rowR_len] at hql
  unfold u8s rowR at hq
  rw [List.getElem?_map, List.getElem?_map, List.getElem?_range hql] at hq
  rw [add_at, hB.cell' (by omega) (rval_b R (show o + q < 512 by omega))]
  exact hq
/-- What Read tells. -/
def ReadPR (R : RStk) (off n : Int) (w : World) (e : Ending) (w' : World) : Prop := ∃ a c, e = .returned (.tuple #[.slice a (readRowR R off n).length c, .int .i64 (readER R off n)]) ∧ OwnQ w' 5 (.slice a (readRowR R off n).length c) (u8s (readRowR R off n)) ∧ (∀ b, (Value.slice a (readRowR R off n).length c).ownBlock = some b → w.heap.size ≤ b) ∧ But [] w w'
theorem readPR_no {R : RStk} {off n E : Int} {w : World} (h : readER R off n = E) (hE : E ≠ 0) : ReadPR R off n w (.returned (.tuple #[.slice none 0 0, .int .i64 E])) w := by
  have hr : readRowR R off n = [] := by unfold readRowR; rw [if_neg (by rw [h]; exact hE)]
  unfold ReadPR
  rw [hr, h]
  exact ⟨none, 0, rfl, .inl ⟨rfl, rfl⟩, (fun b hb => by cases hb), But.refl _ _⟩
set_option maxRecDepth 100000 in
set_option maxHeartbeats 4000000 in
theorem readR_go (P : Nat) (R : RStk) (o m : Nat) (w : World) (hB : Blk w P 36 1280 R.val) (hon : o + m ≤ 512) (ho : o < 512) (hb : bitsR R o m = true) :
    Calls Try.prog 15 #[.pointer (some ⟨P, 0, none⟩), .int .i64 (o : Int), .int .i64 (m : Int)] w (ReadPR R o m w) := by
  have hm : readMay m = true := decide_eq_true (by omega)
  have h10 : (0 : Int) ≤ m := by omega
  have h15 : (m : Int) ≤ 512 := by omega
  have h2 : 0 ≤ (o : Int) ∧ (o : Int) ≤ 512 - (m : Int) := by omega
  have HT := Lib.hid (thereR o m w h10 h15)
  have HD : Hid (decide (0 ≤ (o : Int) ∧ (o : Int) ≤ 512 - (m : Int)) = true) := Lib.hid (decide_eq_true h2)
  have he : checkE o m true = 0 := by unfold checkE; rw [if_pos rfl, if_pos h2]
  have HA := Lib.hid (allR_c P o m R w hon hB)
  have hd : ¬ ((512 : Int) < m) := by omega
  have hd0 : ¬ ((m : Int) < 0) := by omega
  have hr : readER R o m = 0 := by unfold readER; rw [hm, he, if_neg (by decide)]; exact if_pos hb
  have hrr : readRowR R o m = rowR R o m := by unfold readRowR; rw [if_pos hr]; rfl
  obtain ⟨j0, ki, kz0, kz1, kz2⟩ := info_parts (show (Try.prog.info? 5).map (fun i => (i.zero, i.size, i.bytes)) = some (some (.int .u8 0), 1, 1) by kernel_rfl)
  rw [hb] at HA
  obtain ⟨r, hrw⟩ : ∃ r, r = u8s (rowR R o m) := ⟨_, rfl⟩
  have hrl : r.length = m := by rw [hrw, u8s_len, rowR_len]
  have HSE : Hid (∀ c, m ≤ c → Src Try.prog j0.size 37 (.slice (some ⟨P, o, none⟩) (o + m - o) c) r.length r (w.alloc (.cells #[] 5))) := Lib.hid fun c hc => by
    rw [Nat.add_sub_cancel_left]
    have h := readR_sees (hB.but ((But.refl [] w).alloc (.cells #[] 5)) (by simp)) hon c hc
    have h9 := src_sees (P := Try.prog) Try.underlying37 kz1 h (fun v hv => by
      unfold u8s at hv
      obtain ⟨x, -, rfl⟩ := List.mem_map.1 hv
      rfl)
    rw [← hrw] at h9
    exact h9
  have HQ0 : Hid (OwnQ (w.alloc (.cells #[] 5)) 5 (.slice (some ⟨w.heap.size, 0, none⟩) 0 0) []) := Lib.hid (fresh_atR w 5)
  have KEY : Hid (∀ (v' : Value) (w5 : World), Appended (w.alloc (.cells #[] 5)) w5 5 (.slice (some ⟨w.heap.size, 0, none⟩) 0 0) v' [] r → ∃ a c, v' = .slice a m c ∧ ReadPR R o m w (.returned (.tuple #[.slice a m c, .int .i64 0])) w5) := Lib.hid fun v' w5 hap => by
    obtain ⟨a, c, e1, e2, e3, e4⟩ := freshR (w0 := w) ((But.refl [] w).alloc _) (by rw [size_alloc]; omega) hap
    rw [hrl] at e1 e2 e3
    refine ⟨a, c, e1, a, c, ?_, ?_, ?_, e4⟩
    · rw [hrr, hr, rowR_len]
    · rw [hrr, rowR_len, ← hrw]; exact e2
    · rw [hrr, rowR_len]; exact e3
  have hom : wrap64 ((o : Int) + m) = (o : Int) + m := by rw [wrap64]; omega
  have q1 : (0 : Int) ≤ o := by omega
  have q2 : (0 : Int) ≤ (o : Int) + m := by omega
  have q3 : (o : Int) + m ≤ 512 := by omega
  have ho5 : ¬ (512 = o) := by omega
  have q4 : (o : Int) ≤ (o : Int) + m := by omega
  clear hB h2 hm he hb hr hrr hrw
  have HRL := Lib.hid hrl
  clear hrl
  go_enter Try.func15, Try.ntmps15
  go_wp2_with fail
  refine HT.out.mono ?_
  rintro e w1 ⟨rfl, rfl⟩
  rw [HD.out]
  go_wp2_with fail
  refine HA.out.mono ?_
  rintro e w1 ⟨rfl, rfl⟩
  go_wp2_with (at_builtin; refine wpList_append_row (by rfl) _ _ 37 (by rfl) 5 j0 (.int .u8 0) 1 Try.underlying37 ki kz0 kz1 kz2 rfl _ [] (by rfl) HQ0.out r _ (by rfl) (HSE.out _ (by omega)) (by have := HRL.out; unfold maxLen; have h0 : ([] : List Value).length = 0 := rfl; omega) (by have := HRL.out; have h0 : ([] : List Value).length = 0 := rfl; omega) ?_; intro v' w5 hap; obtain ⟨a5, c5, rfl, hp5⟩ := KEY.out _ _ hap; have HP5 := Lib.hid hp5; clear hap hp5)
  go_ret2
  exact HP5.out
set_option maxRecDepth 100000 in
set_option maxHeartbeats 4000000 in
theorem readR_512 (P : Nat) (R : RStk) (w : World) (hB : Blk w P 36 1280 R.val) :
    Calls Try.prog 15 #[.pointer (some ⟨P, 0, none⟩), .int .i64 512, .int .i64 0] w (ReadPR R 512 0 w) := by
  have HT := Lib.hid (thereR 512 0 w (by omega) (by omega))
  have HD : Hid (decide ((0 : Int) ≤ 512 ∧ (512 : Int) ≤ 512 - 0) = true) := Lib.hid (by decide)
  have HA := Lib.hid (allR_c P 512 0 R w (by omega) hB)
  have hr : readER R 512 0 = 0 := rfl
  have hrr : readRowR R 512 0 = [] := rfl
  obtain ⟨j0, ki, kz0, kz1, kz2⟩ := info_parts (show (Try.prog.info? 5).map (fun i => (i.zero, i.size, i.bytes)) = some (some (.int .u8 0), 1, 1) by kernel_rfl)
  have HSE : Hid (Src Try.prog j0.size 37 (.slice (some ⟨P, 0, none⟩) 0 0) ([] : List Value).length [] (w.alloc (.cells #[] 5))) := Lib.hid
    (src_sees (P := Try.prog) Try.underlying37 kz1 (xs := []) (.inr ⟨⟨P, 0, none⟩, 0, rfl, Nat.le_refl _, fun j u hu => by simp at hu⟩) (fun v hv => by cases hv))
  have HQ0 : Hid (OwnQ (w.alloc (.cells #[] 5)) 5 (.slice (some ⟨w.heap.size, 0, none⟩) 0 0) []) := Lib.hid (fresh_atR w 5)
  have KEY : Hid (∀ (v' : Value) (w5 : World), Appended (w.alloc (.cells #[] 5)) w5 5 (.slice (some ⟨w.heap.size, 0, none⟩) 0 0) v' [] [] → ∃ a c, v' = .slice a 0 c ∧ ReadPR R 512 0 w (.returned (.tuple #[.slice a 0 c, .int .i64 0])) w5) := Lib.hid fun v' w5 hap => by
    obtain ⟨a, c, e1, e2, e3, e4⟩ := freshR (w0 := w) ((But.refl [] w).alloc _) (by rw [size_alloc]; omega) hap
    exact ⟨a, c, e1, a, c, rfl, e2, e3, e4⟩
  clear hB hr hrr
  go_enter Try.func15, Try.ntmps15
  go_wp2_with fail
  refine HT.out.mono ?_
  rintro e w1 ⟨rfl, rfl⟩
  rw [HD.out]
  go_wp2_with fail
  refine HA.out.mono ?_
  rintro e w1 ⟨rfl, rfl⟩
  rw [show bitsR R 512 0 = true from rfl]
  go_wp2_with (at_builtin; refine wpList_append_row (by rfl) _ _ 37 (by rfl) 5 j0 (.int .u8 0) 1 Try.underlying37 ki kz0 kz1 kz2 rfl _ [] (by rfl) HQ0.out [] _ (by rfl) HSE.out (by unfold maxLen; have h0 : ([] : List Value).length = 0 := rfl; omega) (by have h0 : ([] : List Value).length = 0 := rfl; omega) ?_; intro v' w5 hap; obtain ⟨a5, c5, rfl, hp5⟩ := KEY.out _ _ hap; have HP5 := Lib.hid hp5; clear hap hp5)
  go_ret2
  exact HP5.out
set_option maxRecDepth 100000 in
set_option maxHeartbeats 4000000 in
theorem ReadR_c (P : Nat) (R : RStk) (off n : Int) (w : World) (hB : Blk w P 36 1280 R.val) :
    Calls Try.prog 15 #[.pointer (some ⟨P, 0, none⟩), .int .i64 off, .int .i64 n] w (ReadPR R off n w) := by
  by_cases h1 : 0 ≤ n ∧ n ≤ 512
  · have hm : readMay n = true := decide_eq_true h1
    obtain ⟨h10, h15⟩ := id h1
    have HT := Lib.hid (thereR off n w h10 h15)
    by_cases h2 : 0 ≤ off ∧ off ≤ 512 - n
    · obtain ⟨o, rfl⟩ := Int.eq_ofNat_of_zero_le h2.1
      obtain ⟨m, rfl⟩ := Int.eq_ofNat_of_zero_le h10
      have HD : Hid (decide (0 ≤ (o : Int) ∧ (o : Int) ≤ 512 - (m : Int)) = true) := Lib.hid (decide_eq_true h2)
      have hon : o + m ≤ 512 := by omega
      have he : checkE o m true = 0 := by unfold checkE; rw [if_pos rfl, if_pos h2]
      have HA := Lib.hid (allR_c P o m R w hon hB)
      have hd : ¬ ((512 : Int) < m) := by omega
      have hd0 : ¬ ((m : Int) < 0) := by omega
      cases hb : bitsR R o m with
      | false =>
        have hr : readER R o m = 30 := by unfold readER; rw [hm, he, if_neg (by decide)]; exact if_neg (by rw [show (o : Int).toNat = o from rfl, show (m : Int).toNat = m from rfl, hb]; decide)
        have HP := Lib.hid (readPR_no (w := w) hr (by decide))
        rw [hb] at HA
        clear hB h1 h2 hm he hb hr
        go_enter Try.func15, Try.ntmps15
        go_wp2_with fail
        refine HT.out.mono ?_
        rintro e w1 ⟨rfl, rfl⟩
        rw [HD.out]
        go_wp2_with fail
        refine HA.out.mono ?_
        rintro e w1 ⟨rfl, rfl⟩
        go_wp2_with fail
        go_ret2
        exact HP.out
      | true =>
        by_cases ho : o < 512
        · exact readR_go P R o m w hB hon ho hb
        · obtain rfl : o = 512 := by omega
          obtain rfl : m = 0 := by omega
          exact readR_512 P R w hB
    · have hr : readER R off n = 32 := by unfold readER checkE; rw [hm, if_pos rfl, if_neg h2]; rfl
      have HD : Hid (decide (0 ≤ off ∧ off ≤ 512 - n) = false) := Lib.hid (decide_eq_false h2)
      have HP := Lib.hid (readPR_no (w := w) hr (by decide))
      have hd : ¬ ((512 : Int) < n) := by omega
      have hd0 : ¬ (n < 0) := by omega
      clear hB h1 h2 hm hr
      go_enter Try.func15, Try.ntmps15
      go_wp2_with fail
      refine HT.out.mono ?_
      rintro e w1 ⟨rfl, rfl⟩
      rw [HD.out]
      go_wp2_with fail
      go_ret2
      exact HP.out
  · have hm : readMay n = false := decide_eq_false h1
    have hr : readER R off n = 2 := by unfold readER; rw [hm]; rfl
    have HP := Lib.hid (readPR_no (w := w) hr (by decide))
    by_cases h0 : n < 0
    · clear hB h1 hm hr
      go_enter Try.func15, Try.ntmps15
      go_wp2_with fail
      go_ret2
      exact HP.out
    · have h5 : 512 < n := by omega
      clear hB h1 hm hr
      go_enter Try.func15, Try.ntmps15
      go_wp2_with fail
      go_ret2
      exact HP.out
end Go.Proofs.Ytmaeiifhmngllaa.M
namespace Go.Proofs.Ytmaeiifhmngllaa.M
open Go.RowKit
set_option linter.unusedVariables false
set_option linter.unusedSectionVars false
set_option linter.unusedSimpArgs false
/-- What an append to a row of one's own leaves. -/
def GrownR (w w' : World) (v : Value) (ys : List Value) : Prop := OwnQ w' 5 v ys ∧ But [] w w' ∧ ∀ b, v.ownBlock = some b → w.heap.size ≤ b
theorem own_sameR (a : Option Addr) (n c n' c' : Nat) : (Value.slice a n c).ownBlock = (Value.slice a n' c').ownBlock := by cases a <;> rfl
theorem GrownR.more {w w1 w2 w3 : World} {v1 v2 : Value} {ys zs : List Value} (h : GrownR w w1 v1 ys) (hb : But [] w1 w2) (hap : Appended w2 w3 5 v1 v2 ys zs) : GrownR w w3 v2 (ys ++ zs) := by
  obtain ⟨h1, h2, h3⟩ := h
  obtain ⟨hq, hc⟩ := hap
  have hs1 := h2.size
  have hs2 := hb.size
  rcases hc with ⟨a, cap, e1, e2, _, hb2⟩ | ⟨hn, hb2⟩
  · have hown : v2.ownBlock = v1.ownBlock := by rw [e1, e2]; exact own_sameR _ _ _ _ _
    refine ⟨hq, (h2.trans hb (by simp)).trans hb2 (fun x hx => .inr (h3 x (by simpa using hx))), fun b hb9 => h3 b (by rw [← hown]; exact hb9)⟩
  · refine ⟨hq, (h2.trans hb (by simp)).trans hb2 (by simp), fun b hb9 => ?_⟩
    rw [hn] at hb9
    cases hb9
    omega
theorem wordBs_succ (x : Int) (n : Nat) : wordBs x (n + 1) = wordBs x n ++ [byteOf x n] := by simp [wordBs, List.range_succ]
theorem u8s_appR (l m : List Int) : u8s (l ++ m) = u8s l ++ u8s m := by simp [u8s]
set_option maxRecDepth 100000 in
set_option maxHeartbeats 4000000 in
theorem storeR_size (P : Nat) (R : RStk) (off n k wd rg of_ : Int) (w : World) (hn : sizeB n = false) :
    Calls Try.prog 23 #[.pointer (some ⟨P, 0, none⟩), .int .i64 off, .int .i64 n, Value.agg #[.int .u8 k, .int .u64 wd, .int .i64 rg, .int .i64 of_]] w fun e w' => e = .returned (.int .i64 2) ∧ But [] w w' := by
  have HN := Lib.hid hn
  clear hn
  go_enter Try.func23, Try.ntmps23
  go_wp2_with fail
  refine (sizeR _ _).mono ?_
  rintro e w1 ⟨rfl, rfl⟩
  rw [HN.out]
  go_wp2_with fail
  go_ret
  exact ⟨rfl, (But.refl [] w).alloc _⟩
set_option maxRecDepth 100000 in
set_option maxHeartbeats 4000000 in
theorem storeR_right (P : Nat) (R : RStk) (off n k wd rg of_ : Int) (w : World) (hn : sizeB n = true) (hr : rightB ⟨k, wd, rg, of_⟩ = false) :
    Calls Try.prog 23 #[.pointer (some ⟨P, 0, none⟩), .int .i64 off, .int .i64 n, Value.agg #[.int .u8 k, .int .u64 wd, .int .i64 rg, .int .i64 of_]] w fun e w' => e = .returned (.int .i64 2) ∧ But [] w w' := by
  have HN := Lib.hid hn
  have HR := Lib.hid hr
  clear hn hr
  go_enter Try.func23, Try.ntmps23
  go_wp2_with fail
  refine (sizeR _ _).mono ?_
  rintro e w1 ⟨rfl, rfl⟩
  rw [HN.out]
  go_wp2_with fail
  refine (rightR _ _ _ _ _).mono ?_
  rintro e w2 ⟨rfl, hb2⟩
  rw [HR.out]
  have HX2 := Lib.hid (hb2.heap (al_at _ _) (by simp))
  have HBT2 := Lib.hid (((But.refl [] w).alloc (.cells #[.int .u8 k, .int .u64 wd, .int .i64 rg, .int .i64 of_] 33)).trans hb2 (by simp))
  clear hb2
  go_wp2_with fail
  go_ret
  exact ⟨rfl, HBT2.out⟩
set_option maxRecDepth 100000 in
set_option maxHeartbeats 4000000 in
theorem storeR_there (P : Nat) (R : RStk) (off n k wd rg of_ : Int) (w : World) (hn : sizeB n = true) (hr : rightB ⟨k, wd, rg, of_⟩ = true) (ht : ¬ (0 ≤ off ∧ off ≤ 512 - n)) :
    Calls Try.prog 23 #[.pointer (some ⟨P, 0, none⟩), .int .i64 off, .int .i64 n, Value.agg #[.int .u8 k, .int .u64 wd, .int .i64 rg, .int .i64 of_]] w fun e w' => e = .returned (.int .i64 32) ∧ But [] w w' := by
  have hn08 := size_cases hn
  have HT := Lib.hid (fun W => thereR off n W hn08.1 (by omega))
  have HN := Lib.hid hn
  have HR := Lib.hid hr
  have HD : Hid (decide (0 ≤ off ∧ off ≤ 512 - n) = false) := Lib.hid (decide_eq_false ht)
  clear hn hr ht hn08
  go_enter Try.func23, Try.ntmps23
  go_wp2_with fail
  refine (sizeR _ _).mono ?_
  rintro e w1 ⟨rfl, rfl⟩
  rw [HN.out]
  go_wp2_with fail
  refine (rightR _ _ _ _ _).mono ?_
  rintro e w2 ⟨rfl, hb2⟩
  rw [HR.out]
  have HX2 := Lib.hid (hb2.heap (al_at _ _) (by simp))
  have HBT2 := Lib.hid (((But.refl [] w).alloc (.cells #[.int .u8 k, .int .u64 wd, .int .i64 rg, .int .i64 of_] 33)).trans hb2 (by simp))
  clear hb2
  go_wp2_with fail
  refine (HT.out w2).mono ?_
  rintro e w3 ⟨rfl, rfl⟩
  rw [HD.out]
  have d0 := cl_of HX2.out 0
  have d1 := cl_of HX2.out 1
  have d2 := cl_of HX2.out 2
  have d3 := cl_of HX2.out 3
  simp only [List.getElem?_toArray, List.getElem?_cons_zero, List.getElem?_cons_succ] at d0 d1 d2 d3
  go_wp2_with fail
  go_ret
  exact ⟨rfl, HBT2.out⟩
set_option maxRecDepth 100000 in
set_option maxHeartbeats 4000000 in
theorem storeR_none (P o n : Nat) (R : RStk) (wd rg of_ : Int) (w : World) (hn : sizeB n = true) (hn8 : n ≤ 8) (hon : o + n ≤ 512) (hr : rightB ⟨0, wd, rg, of_⟩ = true) :
    Calls Try.prog 23 #[.pointer (some ⟨P, 0, none⟩), .int .i64 (o : Int), .int .i64 (n : Int), Value.agg #[.int .u8 0, .int .u64 wd, .int .i64 rg, .int .i64 of_]] w fun e w' => e = .returned (.int .i64 30) ∧ But [] w w' := by
  have HT := Lib.hid (fun W => thereR o n W (by omega) (by omega))
  have HN := Lib.hid hn
  have HR := Lib.hid hr
  have HD : Hid (decide (0 ≤ (o : Int) ∧ (o : Int) ≤ 512 - (n : Int)) = true) := Lib.hid (decide_eq_true (by omega))
  clear hn hr
  go_enter Try.func23, Try.ntmps23
  go_wp2_with fail
  refine (sizeR _ _).mono ?_
  rintro e w1 ⟨rfl, rfl⟩
  rw [HN.out]
  go_wp2_with fail
  refine (rightR _ _ _ _ _).mono ?_
  rintro e w2 ⟨rfl, hb2⟩
  rw [HR.out]
  have HX2 := Lib.hid (hb2.heap (al_at _ _) (by simp))
  have HBT2 := Lib.hid (((But.refl [] w).alloc (.cells #[.int .u8 0, .int .u64 wd, .int .i64 rg, .int .i64 of_] 33)).trans hb2 (by simp))
  clear hb2
  go_wp2_with fail
  refine (HT.out w2).mono ?_
  rintro e w3 ⟨rfl, rfl⟩
  rw [HD.out]
  have d0 := cl_of HX2.out 0
  have d1 := cl_of HX2.out 1
  have d2 := cl_of HX2.out 2
  have d3 := cl_of HX2.out 3
  simp only [List.getElem?_toArray, List.getElem?_cons_zero, List.getElem?_cons_succ] at d0 d1 d2 d3
  go_wp2_with fail
  go_ret
  exact ⟨rfl, HBT2.out⟩
set_option maxRecDepth 100000 in
set_option maxHeartbeats 4000000 in
theorem storeR_part1 (P o : Nat) (R : RStk) (k wd rg of_ : Int) (w : World) (hon : o + 8 ≤ 512) (hr : rightB ⟨k, wd, rg, of_⟩ = true) (g2 : ¬ ((o : Int) % 8 = 0)) (hk0 : (k == 0) = false) (hk1 : (k == 1) = false) :
    Calls Try.prog 23 #[.pointer (some ⟨P, 0, none⟩), .int .i64 (o : Int), .int .i64 8, Value.agg #[.int .u8 k, .int .u64 wd, .int .i64 rg, .int .i64 of_]] w fun e w' => e = .returned (.int .i64 38) ∧ But [] w w' := by
  have HT := Lib.hid (fun W => thereR o 8 W (by omega) (by omega))
  have HN := Lib.hid (show sizeB 8 = true from rfl)
  have HR := Lib.hid hr
  have HD : Hid (decide (0 ≤ (o : Int) ∧ (o : Int) ≤ 512 - 8) = true) := Lib.hid (decide_eq_true (by omega))
  clear hr
  go_enter Try.func23, Try.ntmps23
  go_wp2_with fail
  refine (sizeR _ _).mono ?_
  rintro e w1 ⟨rfl, rfl⟩
  rw [HN.out]
  go_wp2_with fail
  refine (rightR _ _ _ _ _).mono ?_
  rintro e w2 ⟨rfl, hb2⟩
  rw [HR.out]
  have HX2 := Lib.hid (hb2.heap (al_at _ _) (by simp))
  have HBT2 := Lib.hid (((But.refl [] w).alloc (.cells #[.int .u8 k, .int .u64 wd, .int .i64 rg, .int .i64 of_] 33)).trans hb2 (by simp))
  clear hb2
  go_wp2_with fail
  refine (HT.out w2).mono ?_
  rintro e w3 ⟨rfl, rfl⟩
  rw [HD.out]
  have d0 := cl_of HX2.out 0
  have d1 := cl_of HX2.out 1
  have d2 := cl_of HX2.out 2
  have d3 := cl_of HX2.out 3
  simp only [List.getElem?_toArray, List.getElem?_cons_zero, List.getElem?_cons_succ] at d0 d1 d2 d3
  go_wp2_with fail
  go_ret
  exact ⟨rfl, HBT2.out⟩
set_option maxRecDepth 100000 in
set_option maxHeartbeats 4000000 in
theorem storeR_part0 (P o n : Nat) (R : RStk) (k wd rg of_ : Int) (w : World) (hn : sizeB n = true) (hn8 : n ≤ 8) (hon : o + n ≤ 512) (hr : rightB ⟨k, wd, rg, of_⟩ = true) (hk0 : (k == 0) = false) (hk1 : (k == 1) = false) (g1 : ¬ ((n : Int) = 8)) :
    Calls Try.prog 23 #[.pointer (some ⟨P, 0, none⟩), .int .i64 (o : Int), .int .i64 (n : Int), Value.agg #[.int .u8 k, .int .u64 wd, .int .i64 rg, .int .i64 of_]] w fun e w' => e = .returned (.int .i64 38) ∧ But [] w w' := by
  have HT := Lib.hid (fun W => thereR o n W (by omega) (by omega))
  have HN := Lib.hid hn
  have HR := Lib.hid hr
  have HD : Hid (decide (0 ≤ (o : Int) ∧ (o : Int) ≤ 512 - (n : Int)) = true) := Lib.hid (decide_eq_true (by omega))
  clear hn hr
  go_enter Try.func23, Try.ntmps23
  go_wp2_with fail
  refine (sizeR _ _).mono ?_
  rintro e w1 ⟨rfl, rfl⟩
  rw [HN.out]
  go_wp2_with fail
  refine (rightR _ _ _ _ _).mono ?_
  rintro e w2 ⟨rfl, hb2⟩
  rw [HR.out]
  have HX2 := Lib.hid (hb2.heap (al_at _ _) (by simp))
  have HBT2 := Lib.hid (((But.refl [] w).alloc (.cells #[.int .u8 k, .int .u64 wd, .int .i64 rg, .int .i64 of_] 33)).trans hb2 (by simp))
  clear hb2
  go_wp2_with fail
  refine (HT.out w2).mono ?_
  rintro e w3 ⟨rfl, rfl⟩
  rw [HD.out]
  have d0 := cl_of HX2.out 0
  have d1 := cl_of HX2.out 1
  have d2 := cl_of HX2.out 2
  have d3 := cl_of HX2.out 3
  simp only [List.getElem?_toArray, List.getElem?_cons_zero, List.getElem?_cons_succ] at d0 d1 d2 d3
  go_wp2_with fail
  go_ret
  exact ⟨rfl, HBT2.out⟩
set_option maxRecDepth 100000 in
set_option maxHeartbeats 4000000 in
theorem storeR_word (P o n : Nat) (R : RStk) (wd rg of_ : Int) (w : World) (hn : sizeB n = true) (hn8 : n ≤ 8) (hon : o + n ≤ 512) (hr : rightB ⟨1, wd, rg, of_⟩ = true) (hB : Blk w P 36 1280 R.val) :
    Calls Try.prog 23 #[.pointer (some ⟨P, 0, none⟩), .int .i64 (o : Int), .int .i64 (n : Int), Value.agg #[.int .u8 1, .int .u64 wd, .int .i64 rg, .int .i64 of_]] w fun e w' => e = .returned (.int .i64 0) ∧ Blk w' P 36 1280 (putC R o n (wordBs wd n)).val ∧ But [P] w w' := by
  have HT := Lib.hid (fun W => thereR o n W (by omega) (by omega))
  have HN := Lib.hid hn
  have HR := Lib.hid hr
  have HD : Hid (decide (0 ≤ (o : Int) ∧ (o : Int) ≤ 512 - (n : Int)) = true) := Lib.hid (decide_eq_true (by omega))
  have HB := Lib.hid hB
  have HON := Lib.hid hon
  clear hn hr hB hon
  go_enter Try.func23, Try.ntmps23
  go_wp2_with fail
  refine (sizeR _ _).mono ?_
  rintro e w1 ⟨rfl, rfl⟩
  rw [HN.out]
  go_wp2_with fail
  refine (rightR _ _ _ _ _).mono ?_
  rintro e w2 ⟨rfl, hb2⟩
  rw [HR.out]
  have HX2 := Lib.hid (hb2.heap (al_at _ _) (by simp))
  have HBT2 := Lib.hid (((But.refl [] w).alloc (.cells #[.int .u8 1, .int .u64 wd, .int .i64 rg, .int .i64 of_] 33)).trans hb2 (by simp))
  clear hb2
  go_wp2_with fail
  refine (HT.out w2).mono ?_
  rintro e w3 ⟨rfl, rfl⟩
  rw [HD.out]
  have d0 := cl_of HX2.out 0
  have d1 := cl_of HX2.out 1
  have d2 := cl_of HX2.out 2
  have d3 := cl_of HX2.out 3
  simp only [List.getElem?_toArray, List.getElem?_cons_zero, List.getElem?_cons_succ] at d0 d1 d2 d3
  obtain ⟨j0, ki, kz0, kz1, kz2⟩ := info_parts (show (Try.prog.info? 5).map (fun i => (i.zero, i.size, i.bytes)) = some (some (.int .u8 0), 1, 1) by kernel_rfl)
  have HB2 := Lib.hid (HB.out.but HBT2.out (by simp))
  clear d0 d1 d2 d3
  have d0 := cl_of HX2.out 0
  simp only [List.getElem?_toArray, List.getElem?_cons_zero, List.getElem?_cons_succ] at d0
  go_wp2_with fail
  go_loopw [9, 10] (fun b i wr => ∃ (j : Nat) (a : Option Addr) (c : Nat), j ≤ n ∧ i = .int .i64 j ∧ b = .slice a j c ∧ GrownR w2 wr (.slice a j c) (u8s (wordBs wd j))) (fun _ i _ => n - (intOf i).toNat)
  case atStart => exact ⟨0, none, 0, Nat.zero_le _, rfl, rfl, .inl ⟨rfl, rfl⟩, But.refl _ _, fun b hb => by cases hb⟩
  case round =>
    obtain ⟨j, a, c, hj, rfl, rfl, hg⟩ := hrel
    have e1 := cl_of (hg.2.1.heap HX2.out (by simp)) 1
    simp only [List.getElem?_toArray, List.getElem?_cons_zero, List.getElem?_cons_succ] at e1
    have HG := Lib.hid hg
    clear hg d0
    have hj0 : (0 : Int) ≤ j := by omega
    by_cases hlt : j < n
    · have hjn : (j : Int) < n := by omega
      have hj8 : j < 8 := by omega
      have hsh : (0 : Int) ≤ 8 * (j : Int) := by omega
      have hw8 : wrap64 (8 * (j : Int)) = 8 * (j : Int) := by rw [wrap64]; omega
      have hwu : IntKind.u64.wrap (8 * (j : Int)) = 8 * (j : Int) := by rw [IntKind.wrap_u64]; omega
      have hw1 : wrap64 ((j : Int) + 1) = (j : Int) + 1 := by rw [wrap64]; omega
      have HBYTE : Hid (wd / 2 ^ (8 * j) % 256 = byteOf wd j) := Lib.hid rfl
      obtain ⟨x, hx⟩ : ∃ x, x = wd / 2 ^ (8 * j) % 256 := ⟨_, rfl⟩
      have HXX : Hid (x = byteOf wd j) := Lib.hid (by rw [hx]; exact HBYTE.out)
      have HL : Hid (j = (u8s (wordBs wd j)).length) := Lib.hid (by rw [u8s_len, wordBs_len])
      have HQ : Hid (OwnQ (wr.alloc (.cells #[.int .u8 x] 5)) 5 (.slice a j c) (u8s (wordBs wd j))) := Lib.hid (HG.out.1.but ((But.refl [] _).alloc _) (by simp))
      have HS : Hid (Src Try.prog j0.size 37 (.slice (some ⟨wr.heap.size, 0, none⟩) 1 1) [Value.int .u8 x].length [.int .u8 x] (wr.alloc (.cells #[.int .u8 x] 5))) := Lib.hid (by
        refine src_sees (P := Try.prog) Try.underlying37 kz1 (xs := [.int .u8 x]) (.inr ⟨⟨wr.heap.size, 0, none⟩, 1, rfl, by simp, fun i u hu => ?_⟩) (fun v hv => by simp at hv; subst hv; rfl)
        rw [add_at, cl_of (al_at _ _)]
        match i, hu with
        | 0, hu => simpa using hu)
      have KEY : Hid (∀ (v' : Value) (w' : World), Appended (wr.alloc (.cells #[.int .u8 x] 5)) w' 5 (.slice a j c) v' (u8s (wordBs wd j)) [.int .u8 x] → ∃ a' c', v' = .slice a' (j + 1) c' ∧ GrownR w2 w' (.slice a' (j + 1) c') (u8s (wordBs wd (j + 1)))) := Lib.hid fun v' w' hap => by
        have h := HG.out.more ((But.refl [] wr).alloc _) hap
        obtain ⟨a', c', e⟩ := h.1.form
        have hl : (u8s (wordBs wd j) ++ [Value.int .u8 x]).length = j + 1 := by rw [List.length_append, u8s_len, wordBs_len, List.length_singleton]
        rw [hl] at e
        subst e
        refine ⟨a', c', rfl, ?_⟩
        rw [wordBs_succ, u8s_appR, ← HXX.out]
        exact h
      have HW4 : Hid (∀ x9, x9 = x → wr.alloc (.cells #[.int .u8 x9] 5) = wr.alloc (.cells #[.int .u8 x] 5)) := Lib.hid (fun x9 h => by rw [h])
      have hlen : (u8s (wordBs wd j)).length ≤ 8 := by rw [u8s_len, wordBs_len]; omega
      have hx' := hx.symm
      clear hx HBYTE
      go_wp2_with (at_builtin; refine wpList_append_row (by rfl) _ _ 37 (by rfl) 5 j0 (.int .u8 0) 1 Try.underlying37 ki kz0 kz1 kz2 rfl _ (u8s (wordBs wd j)) (by rfl) HQ.out [_] _ (by rfl) HS.out (by unfold maxLen; have h0 : ∀ x : Value, [x].length = 1 := fun _ => rfl; rw [h0]; omega) (by have h0 : ∀ x : Value, [x].length = 1 := fun _ => rfl; rw [h0]; omega) ?_; intro v' w' hap; obtain ⟨a', c', rfl, hg'⟩ := KEY.out _ _ hap; have HG' := Lib.hid hg'; clear hap hg')
      go_roundw
      case rel => exact ⟨j + 1, a', c', by omega, by go_num, rfl, HG'.out⟩
      case measure => simp [intOf]; omega
    · obtain rfl : j = n := by omega
      have hsee := HG.out.1.sees
      have hfar : ∀ ad, a = some ad → wordBs wd j ≠ [] → ad.block ≠ P := fun ad had _ => by
        subst had
        have h1 := HG.out.2.2 ad.block rfl
        have h2 := HB2.out.lt
        omega
      have HPUT := Lib.hid (putR_c P o R a c (wordBs wd j) wr (by rw [wordBs_len]; exact HON.out) (HB2.out.but HG.out.2.1 (by simp)) (by rw [wordBs_len]; exact hsee) hfar)
      rw [wordBs_len] at HPUT
      clear hsee hfar hlt e1
      go_wp2_with fail
      refine HPUT.out.mono ?_
      rintro e w9 ⟨rfl, hb9, hbt9⟩
      have HB9 := Lib.hid hb9
      have HBT9 := Lib.hid hbt9
      clear hb9 hbt9
      go_wp2_with fail
      go_ret
      exact ⟨rfl, HB9.out, (HBT2.out.trans HG.out.2.1 (by simp) |>.mono (by simp)).trans HBT9.out (fun y hy => .inl hy)⟩
theorem setc_val (R : RStk) {g : Nat} (c : CV) (hg : g < 64) : ∀ i, i < 1280 → upd (upd (upd (upd R.val (1024 + g * 4) (.int .u8 c.k)) (1024 + g * 4 + 1) (.int .u64 c.w)) (1024 + g * 4 + 2) (.int .i64 c.r)) (1024 + g * 4 + 3) (.int .i64 c.o) i = RStk.val { R with whole := fun j => if j = g then c else R.whole j } i := by
  intro i hi
  rcases rplace hi with h | ⟨j, hj, rfl⟩ | ⟨k, q, hk, hq, rfl⟩
  · rw [rval_b _ h]
    simp only [upd]
    rw [if_neg (by omega), if_neg (by omega), if_neg (by omega), if_neg (by omega), rval_b _ h]
  · rw [rval_set _ hj]
    simp only [upd]
    rw [if_neg (by omega), if_neg (by omega), if_neg (by omega), if_neg (by omega), rval_set _ hj]
  · rw [rval_whole _ hk hq]
    show _ = (if k = g then c else R.whole k).at q
    by_cases e : k = g
    · subst e
      rw [if_pos rfl]
      simp only [upd]
      match q, hq with
      | 0, _ => rw [if_neg (by omega), if_neg (by omega), if_neg (by omega), if_pos (by omega)]; rfl
      | 1, _ => rw [if_neg (by omega), if_neg (by omega), if_pos (by omega)]; rfl
      | 2, _ => rw [if_neg (by omega), if_pos (by omega)]; rfl
      | 3, _ => rw [if_pos (by omega)]; rfl
    · rw [if_neg e]
      simp only [upd]
      rw [if_neg (by omega), if_neg (by omega), if_neg (by omega), if_neg (by omega), rval_whole _ hk hq]
/-- Some places are unset. -/
def unsR (R : RStk) (o j : Nat) : RStk := { R with set := fun a => if o ≤ a ∧ a < o + j then false else R.set a }
theorem unsR_zero (R : RStk) (o : Nat) : unsR R o 0 = R := by
  have h1 : (fun a => if o ≤ a ∧ a < o + 0 then false else R.set a) = R.set := funext fun a => if_neg (by omega)
  unfold unsR
  rw [h1]
theorem unsR_val (R : RStk) {o j : Nat} (h : o + j < 512) : ∀ i, i < 1280 → upd (unsR R o j).val (512 + (o + j)) (.bool false) i = (unsR R o (j + 1)).val i := by
  intro i hi
  rcases rplace hi with h9 | ⟨q, hq, rfl⟩ | ⟨k, q, hk, hq, rfl⟩
  · rw [upd_out (by omega), rval_b _ h9, rval_b _ h9]
    rfl
  · rw [rval_set _ hq]
    show _ = Value.bool (if o ≤ q ∧ q < o + (j + 1) then false else R.set q)
    by_cases e : q = o + j
    · subst e
      rw [upd_in, if_pos (by omega)]
    · rw [upd_out (by omega), rval_set _ hq]
      show Value.bool (if o ≤ q ∧ q < o + j then false else R.set q) = _
      by_cases e2 : o ≤ q ∧ q < o + j
      · rw [if_pos e2, if_pos (by omega)]
      · rw [if_neg e2, if_neg (by omega)]
  · rw [upd_out (by omega), rval_whole _ hk hq, rval_whole _ hk hq]
    rfl
theorem uns_set (R : RStk) {o : Nat} (c : CV) (ho : o % 8 = 0) : unsR { R with whole := fun j => if j = o / 8 then c else R.whole j } o 8 = setR R (o / 8) c := by
  have h1 : (fun a => if o ≤ a ∧ a < o + 8 then false else R.set a) = (fun j => if 8 * (o / 8) ≤ j ∧ j < 8 * (o / 8) + 8 then false else R.set j) := funext fun a => by rw [show 8 * (o / 8) = o by omega]
  unfold unsR setR
  simp only
  rw [h1]
theorem whole_nums {o : Nat} (h : o + 8 ≤ 512) : 1024 + o / 8 * 4 < 1280 ∧ 1024 + o / 8 * 4 + 1 < 1280 ∧ 1024 + o / 8 * 4 + 2 < 1280 ∧ 1024 + o / 8 * 4 + 3 < 1280 ∧ (0 : Int) ≤ o ∧ (o : Int) / 8 < 64 ∧ (0 : Int) ≤ (o : Int) / 8 ∧ o / 8 < 64 ∧ IntKind.i64.wrap ((o : Int) / 8) = (o : Int) / 8 := by
  refine ⟨by omega, by omega, by omega, by omega, by omega, by omega, by omega, by omega, ?_⟩
  rw [IntKind.wrap_i64]
  omega
set_option maxRecDepth 100000 in
set_option maxHeartbeats 4000000 in
theorem storeR_whole (P o : Nat) (R : RStk) (k wd rg of_ : Int) (w : World) (hon : o + 8 ≤ 512) (hr : rightB ⟨k, wd, rg, of_⟩ = true) (hB : Blk w P 36 1280 R.val) (ho8 : o % 8 = 0) (hk0 : (k == 0) = false) (hk1 : (k == 1) = false) :
    Calls Try.prog 23 #[.pointer (some ⟨P, 0, none⟩), .int .i64 (o : Int), .int .i64 8, Value.agg #[.int .u8 k, .int .u64 wd, .int .i64 rg, .int .i64 of_]] w fun e w' => e = .returned (.int .i64 0) ∧ Blk w' P 36 1280 (setR R (o / 8) ⟨k, wd, rg, of_⟩).val ∧ But [P] w w' := by
  have HT := Lib.hid (fun W => thereR o 8 W (by omega) (by omega))
  have HN := Lib.hid (show sizeB 8 = true from rfl)
  have HR := Lib.hid hr
  have HD : Hid (decide (0 ≤ (o : Int) ∧ (o : Int) ≤ 512 - 8) = true) := Lib.hid (decide_eq_true (by omega))
  have HB := Lib.hid hB
  have HON := Lib.hid hon
  have HO8 := Lib.hid ho8
  have g2 : (o : Int) % 8 = 0 := by omega
  clear hr hB hon ho8
  go_enter Try.func23, Try.ntmps23
  go_wp2_with fail
  refine (sizeR _ _).mono ?_
  rintro e w1 ⟨rfl, rfl⟩
  rw [HN.out]
  go_wp2_with fail
  refine (rightR _ _ _ _ _).mono ?_
  rintro e w2 ⟨rfl, hb2⟩
  rw [HR.out]
  have HX2 := Lib.hid (hb2.heap (al_at _ _) (by simp))
  have HBT2 := Lib.hid (((But.refl [] w).alloc (.cells #[.int .u8 k, .int .u64 wd, .int .i64 rg, .int .i64 of_] 33)).trans hb2 (by simp))
  clear hb2
  go_wp2_with fail
  refine (HT.out w2).mono ?_
  rintro e w3 ⟨rfl, rfl⟩
  rw [HD.out]
  have d0 := cl_of HX2.out 0
  have d1 := cl_of HX2.out 1
  have d2 := cl_of HX2.out 2
  have d3 := cl_of HX2.out 3
  simp only [List.getElem?_toArray, List.getElem?_cons_zero, List.getElem?_cons_succ] at d0 d1 d2 d3
  have HB2 := Lib.hid (HB.out.but HBT2.out (by simp))
  obtain ⟨p0, p1, p2, p3, q0, q1, q2, q3, q4⟩ := whole_nums HON.out
  have HC9 := Lib.hid (Blk.congr ((((HB2.out.set (1024 + o / 8 * 4) (.int .u8 k)).set (1024 + o / 8 * 4 + 1) (.int .u64 wd)).set (1024 + o / 8 * 4 + 2) (.int .i64 rg)).set (1024 + o / 8 * 4 + 3) (.int .i64 of_)) (setc_val R ⟨k, wd, rg, of_⟩ q3))
  have HBT3 := Lib.hid ((((((But.refl [P] w2).setCell (p := ⟨P, 1024 + o / 8 * 4, none⟩) (.inl (by simp)) (.int .u8 k)).setCell (p := ⟨P, 1024 + o / 8 * 4 + 1, none⟩) (.inl (by simp)) (.int .u64 wd)).setCell (p := ⟨P, 1024 + o / 8 * 4 + 2, none⟩) (.inl (by simp)) (.int .i64 rg)).setCell (p := ⟨P, 1024 + o / 8 * 4 + 3, none⟩) (.inl (by simp)) (.int .i64 of_)).drew)
  have e0 := HB2.out.cell (i := 1024 + o / 8 * 4) p0
  have f0 := HB2.out.frozen (1024 + o / 8 * 4)
  have e1 := HB2.out.cell (i := 1024 + o / 8 * 4 + 1) p1
  have f1 := HB2.out.frozen (1024 + o / 8 * 4 + 1)
  have e2 := HB2.out.cell (i := 1024 + o / 8 * 4 + 2) p2
  have f2 := HB2.out.frozen (1024 + o / 8 * 4 + 2)
  have e3 := HB2.out.cell (i := 1024 + o / 8 * 4 + 3) p3
  have f3 := HB2.out.frozen (1024 + o / 8 * 4 + 3)
  clear p0 p1 p2 p3
  go_upto_region 18 with fail
  refine wp_region_tail9 7 (by kernel_rfl) (by kernel_rfl) ?_
  simp only [List.take_succ_cons, List.take_zero, List.drop_succ_cons, List.drop_zero]
  repeat still_step
  refine wpStill_nil ?_
  go_upto_block 1 with fail
  all_goals
    have HC10 := Lib.hid (HC9.out.but ((But.refl [] _).drew) (by simp))
    obtain ⟨w5, hw5⟩ : ∃ w5, w5 = ((((w2.setCell ⟨P, 1024 + o / 8 * 4, none⟩ (.int .u8 k)).setCell ⟨P, 1024 + o / 8 * 4 + 1, none⟩ (.int .u64 wd)).setCell ⟨P, 1024 + o / 8 * 4 + 2, none⟩ (.int .i64 rg)).setCell ⟨P, 1024 + o / 8 * 4 + 3, none⟩ (.int .i64 of_)).drew := ⟨_, rfl⟩
    rw [← hw5] at HC10 HBT3 ⊢
    clear hw5 HC9 d0 d1 d2 d3 e0 e1 e2 e3 f0 f1 f2 f3
    go_loopw [11] (fun i wr => ∃ j : Nat, j ≤ 8 ∧ i = .int .i64 j ∧ Blk wr P 36 1280 (unsR { R with whole := fun j => if j = o / 8 then ⟨k, wd, rg, of_⟩ else R.whole j } o j).val ∧ But [P] w5 wr) (fun i _ => 8 - (intOf i).toNat)
    case atStart => exact ⟨0, by omega, rfl, by rw [unsR_zero]; exact HC10.out, But.refl _ _⟩
    case round =>
      obtain ⟨j, hj, rfl, hb, hbw⟩ := hrel
      have HBB := Lib.hid hb
      have HBW := Lib.hid hbw
      clear hb hbw
      have hj0 : (0 : Int) ≤ j := by omega
      by_cases hlt : j < 8
      · have hj1 : (j : Int) < 8 := by omega
        obtain ⟨r0, r1, -, -, hm5, -, -, hp2, -, hwm, hw1⟩ := put_nums2 hlt HON.out
        have cs := HBB.out.cell hp2
        have fs := HBB.out.frozen (512 + (o + j))
        have HN9 := Lib.hid ((HBB.out.set (512 + (o + j)) (.bool false)).congr (unsR_val _ hm5))
        clear hlt hm5 hp2
        go_wp2_with fail
        go_roundw
        case rel => exact ⟨j + 1, by omega, by go_num, HN9.out, HBW.out.setCell (.inl (by simp)) _⟩
        case measure => simp [intOf]; omega
      · obtain rfl : j = 8 := by omega
        have HE := Lib.hid (uns_set R ⟨k, wd, rg, of_⟩ HO8.out)
        go_wp2_with fail
        go_ret
        refine ⟨rfl, ?_, ((HBT2.out.mono (by simp)).trans HBT3.out (fun y hy => .inl hy)).trans HBW.out (fun y hy => .inl hy)⟩
        rw [← HE.out]
        exact HBB.out
theorem StoreR_c (P : Nat) (R : RStk) (off n : Int) (c : CV) (w : World) (hB : Blk w P 36 1280 R.val) :
    Calls Try.prog 23 #[.pointer (some ⟨P, 0, none⟩), .int .i64 off, .int .i64 n, c.agg] w fun e w' => e = .returned (.int .i64 (storeE off n c)) ∧ Blk w' P 36 1280 (storeRS R off n c).val ∧ But [P] w w' := by
  have bad : ∀ E, storeE off n c = E → E ≠ 0 → (Calls Try.prog 23 #[.pointer (some ⟨P, 0, none⟩), .int .i64 off, .int .i64 n, c.agg] w fun e w' => e = .returned (.int .i64 E) ∧ But [] w w') → Calls Try.prog 23 #[.pointer (some ⟨P, 0, none⟩), .int .i64 off, .int .i64 n, c.agg] w fun e w' => e = .returned (.int .i64 (storeE off n c)) ∧ Blk w' P 36 1280 (storeRS R off n c).val ∧ But [P] w w' := fun E hE h0 h => h.mono (by
    rintro e w' ⟨rfl, hb⟩
    have hS : storeRS R off n c = R := by unfold storeRS; rw [if_pos (by rw [hE]; exact h0)]
    rw [hE, hS]
    exact ⟨rfl, hB.but hb (by simp), hb.mono (by simp)⟩)
  by_cases hE : checkE off n (sizeB n && rightB c) = 0
  · obtain ⟨hm, h0, h1⟩ := checkE_ok hE
    rw [Bool.and_eq_true] at hm
    obtain ⟨hs, hr⟩ := hm
    obtain ⟨hn0, hn8⟩ := size_cases hs
    obtain ⟨o, rfl⟩ := Int.eq_ofNat_of_zero_le h0
    obtain ⟨m, rfl⟩ := Int.eq_ofNat_of_zero_le hn0
    obtain ⟨k, wd, rg, of_⟩ := c
    have hm8 : m ≤ 8 := by omega
    have hon : o + m ≤ 512 := by omega
    have hE1 : ∀ x, (if checkE o m (sizeB m && rightB ⟨k, wd, rg, of_⟩) ≠ 0 then checkE o m (sizeB m && rightB ⟨k, wd, rg, of_⟩) else x) = x := fun x => if_neg (fun h => h hE)
    by_cases k0 : k = 0
    · subst k0
      have hl : storeE o m ⟨0, wd, rg, of_⟩ = 30 := by unfold storeE; rw [hE1]; rfl
      exact bad 30 hl (by decide) (storeR_none P o m R wd rg of_ w hs hm8 hon hr)
    · by_cases k1 : k = 1
      · subst k1
        have hl : storeE o m ⟨1, wd, rg, of_⟩ = 0 := by unfold storeE; rw [hE1]; rfl
        have hS : storeRS R o m ⟨1, wd, rg, of_⟩ = putC R o m (wordBs wd m) := by unfold storeRS; rw [hl]; rfl
        rw [hl, hS]
        exact storeR_word P o m R wd rg of_ w hs hm8 hon hr hB
      · have hk0 : (k == 0) = false := by simpa using k0
        have hk1 : (k == 1) = false := by simpa using k1
        by_cases hw : (m : Int) = 8 ∧ (o : Int) % 8 = 0
        · have hl : storeE o m ⟨k, wd, rg, of_⟩ = 0 := by unfold storeE; rw [hE1, if_neg k0, if_neg k1, if_pos hw]
          have hS : storeRS R o m ⟨k, wd, rg, of_⟩ = setR R (o / 8) ⟨k, wd, rg, of_⟩ := by unfold storeRS; rw [hl, if_neg (by decide), if_neg k1]; rfl
          rw [hl, hS]
          obtain rfl : m = 8 := by omega
          exact storeR_whole P o R k wd rg of_ w hon hr hB (by omega) hk0 hk1
        · have hl : storeE o m ⟨k, wd, rg, of_⟩ = 38 := by unfold storeE; rw [hE1, if_neg k0, if_neg k1, if_neg hw]
          refine bad 38 hl (by decide) ?_
          by_cases g1 : m = 8
          · obtain rfl : m = 8 := g1
            exact storeR_part1 P o R k wd rg of_ w hon hr (fun h => hw ⟨by omega, h⟩) hk0 hk1
          · exact storeR_part0 P o m R k wd rg of_ w hs hm8 hon hr hk0 hk1 (by omega)
  · have hl : storeE off n c = checkE off n (sizeB n && rightB c) := by unfold storeE; rw [if_pos hE]
    obtain ⟨k, wd, rg, of_⟩ := c
    cases hs : sizeB n with
    | false =>
      have h2 : storeE off n ⟨k, wd, rg, of_⟩ = 2 := by rw [hl, hs]; rfl
      exact bad 2 h2 (by decide) (storeR_size P R off n k wd rg of_ w hs)
    | true =>
      cases hr : rightB ⟨k, wd, rg, of_⟩ with
      | false =>
        have h2 : storeE off n ⟨k, wd, rg, of_⟩ = 2 := by rw [hl, hs, hr]; rfl
        exact bad 2 h2 (by decide) (storeR_right P R off n k wd rg of_ w hs hr)
      | true =>
        have ht : ¬ (0 ≤ off ∧ off ≤ 512 - n) := fun h => hE (by rw [hs, hr]; unfold checkE; exact (if_pos rfl).trans (if_pos h))
        have h2 : storeE off n ⟨k, wd, rg, of_⟩ = 32 := by rw [hl, hs, hr]; unfold checkE; exact (if_pos rfl).trans (if_neg ht)
        exact bad 32 h2 (by decide) (storeR_there P R off n k wd rg of_ w hs hr ht)
end Go.Proofs.Ytmaeiifhmngllaa.M
namespace Go.Proofs.Ytmaeiifhmngllaa.M
open Go.RowKit
set_option linter.unusedVariables false
set_option linter.unusedSectionVars false
set_option linter.unusedSimpArgs false
theorem leV_drop {l : List Int} {q : Nat} (h : q < l.length) : leV (l.drop q) = leV (l.drop (q + 1)) * 256 + l.getD q 0 := by
  rw [List.drop_eq_getElem_cons h, List.getD_eq_getElem?_getD, List.getElem?_eq_getElem h]
  rfl
theorem leV_bd {l : List Int} (h : ByteL l) (hl : l.length < 8) : 0 ≤ leV l ∧ leV l < 72057594037927936 := by
  have h1 := fold_bound l.reverse 0 0 (fun x hx => h x (List.mem_reverse.1 hx)) (by omega) (by decide)
  rw [List.foldl_reverse, List.length_reverse, Nat.zero_add] at h1
  have hk : ∀ k : Nat, k < 8 → (256 : Int) ^ k ≤ 72057594037927936 := by decide
  exact ⟨h1.1, Int.lt_of_lt_of_le h1.2 (hk _ hl)⟩
theorem rowR_byte {R : RStk} (h : ByteR R) {o n : Nat} (hon : o + n ≤ 512) : ByteL (rowR R o n) := fun x hx => by
  unfold rowR at hx
  simp only [List.mem_map, List.mem_range] at hx
  obtain ⟨i, hi, rfl⟩ := hx
  exact h _ (by omega)
theorem rowR_at {R : RStk} {o n q : Nat} (h : q < n) : (rowR R o n).getD q 0 = R.b (o + q) := by
  unfold rowR
  rw [List.getD_eq_getElem?_getD, List.getElem?_map, List.getElem?_range h]
  rfl
theorem size_posR {n : Nat} (hs : sizeB n = true) : 0 < n := by
  unfold sizeB at hs
  have := of_decide_eq_true hs
  omega
theorem resR_load {W : World} {R : Nat} {T : TypeId} {a b c d e : Value} {tmps : Array Value} (h : W.heap[R]? = some (.cells #[a, b, c, d] T)) (h6 : tmps[6]?.getD undef = .pointer (some ⟨R, 0, none⟩)) (h7 : tmps[7]?.getD undef = e) :
    (results Try.f13 tmps).run Try.prog W = .ok (.tuple #[.agg #[a, b, c, d], e]) W := by
  have d0 := cl_of h 0
  have d1 := cl_of h 1
  have d2 := cl_of h 2
  have d3 := cl_of h 3
  simp only [List.getElem?_toArray, List.getElem?_cons_zero, List.getElem?_cons_succ] at d0 d1 d2 d3
  simp [results, Try.results13, go_sem, h6, h7, d0, d1, d2, d3]
theorem load_nums {o q n : Nat} (hq : q < n) (hon : o + n ≤ 512) : (0 : Int) ≤ (o : Int) + q ∧ (o : Int) + q < 512 ∧ o + q < 512 ∧ o + q < 1280 ∧ IntKind.i64.wrap ((o : Int) + q) = (o : Int) + q ∧ wrap64 ((q : Int) - 1) = (q : Int) - 1 ∧ (0 : Int) ≤ q ∧ ((o : Int) + q).toNat = o + q := by
  refine ⟨by omega, by omega, by omega, by omega, ?_, ?_, by omega, by omega⟩
  · rw [IntKind.wrap_i64]; omega
  · rw [wrap64]; omega
set_option maxRecDepth 100000 in
set_option maxHeartbeats 4000000 in
theorem loadR_size (P : Nat) (R : RStk) (off n : Int) (w : World) (hn : sizeB n = false) :
    Calls Try.prog 13 #[.pointer (some ⟨P, 0, none⟩), .int .i64 off, .int .i64 n] w fun e w' => e = .returned (.tuple #[c0.agg, .int .i64 2]) ∧ But [] w w' := by
  have HN := Lib.hid hn
  clear hn
  go_enter Try.func13, Try.ntmps13
  go_wp2_with fail
  refine (sizeR _ _).mono ?_
  rintro e w1 ⟨rfl, rfl⟩
  rw [HN.out]
  go_wp2_with fail
  refine bodyPost_ret (resR_load (al_at _ _) rfl rfl) rfl ⟨rfl, ?_⟩
  exact (But.refl [] w).alloc _
set_option maxRecDepth 100000 in
set_option maxHeartbeats 4000000 in
theorem loadR_there (P : Nat) (R : RStk) (off n : Int) (w : World) (hn : sizeB n = true) (ht : ¬ (0 ≤ off ∧ off ≤ 512 - n)) :
    Calls Try.prog 13 #[.pointer (some ⟨P, 0, none⟩), .int .i64 off, .int .i64 n] w fun e w' => e = .returned (.tuple #[c0.agg, .int .i64 32]) ∧ But [] w w' := by
  have hn08 := size_cases hn
  have HT := Lib.hid (fun W => thereR off n W hn08.1 (by omega))
  have HN := Lib.hid hn
  have HD : Hid (decide (0 ≤ off ∧ off ≤ 512 - n) = false) := Lib.hid (decide_eq_false ht)
  clear hn ht hn08
  go_enter Try.func13, Try.ntmps13
  go_wp2_with fail
  refine (sizeR _ _).mono ?_
  rintro e w1 ⟨rfl, rfl⟩
  rw [HN.out]
  go_wp2_with fail
  refine (HT.out _).mono ?_
  rintro e w1 ⟨rfl, rfl⟩
  rw [HD.out]
  go_wp2_with fail
  refine bodyPost_ret (resR_load (al_at _ _) rfl rfl) rfl ⟨rfl, ?_⟩
  exact (But.refl [] w).alloc _
set_option maxRecDepth 100000 in
set_option maxHeartbeats 4000000 in
theorem loadR_whole (P o : Nat) (R : RStk) (w : World) (hon : o + 8 ≤ 512) (hB : Blk w P 36 1280 R.val) (g2 : (o : Int) % 8 = 0) (g3 : (R.whole (o / 8)).k ≠ 0) :
    Calls Try.prog 13 #[.pointer (some ⟨P, 0, none⟩), .int .i64 (o : Int), .int .i64 8] w fun e w' => e = .returned (.tuple #[(R.whole (o / 8)).agg, .int .i64 0]) ∧ But [] w w' := by
  have hn : sizeB 8 = true := rfl
  have HT := Lib.hid (fun W => thereR o 8 W (by omega) (by omega))
  have HN := Lib.hid hn
  have HD : Hid (decide (0 ≤ (o : Int) ∧ (o : Int) ≤ 512 - 8) = true) := Lib.hid (decide_eq_true (by omega))
  have HB := Lib.hid hB
  have HON := Lib.hid hon
  obtain ⟨C, hC⟩ : ∃ C, C = R.whole (o / 8) := ⟨_, rfl⟩
  have hq : ∀ q, q < 4 → R.val (1024 + (o / 8 * 4 + q)) = C.at q := fun q hq => by rw [hC]; exact rval_whole _ (by omega) hq
  rw [← hC] at g3 ⊢
  clear hC
  obtain ⟨k, wd, rg, of_⟩ := C
  simp only at g3
  have hk : (k == 0) = false := by simpa using g3
  have HQ := Lib.hid hq
  clear hn hB hon hq g3
  go_enter Try.func13, Try.ntmps13
  go_wp2_with fail
  refine (sizeR _ _).mono ?_
  rintro e w1 ⟨rfl, rfl⟩
  rw [HN.out]
  go_wp2_with fail
  refine (HT.out _).mono ?_
  rintro e w1 ⟨rfl, rfl⟩
  rw [HD.out]
  have HB1 := Lib.hid (HB.out.but ((But.refl [] w).alloc (.cells #[.int .u8 0, .int .u64 0, .int .i64 0, .int .i64 0] 33)) (by simp))
  obtain ⟨p0, p1, p2, p3, q0, q1, q2, q3, q4⟩ := whole_nums HON.out
  have b0 : (w.alloc (.cells #[.int .u8 0, .int .u64 0, .int .i64 0, .int .i64 0] 33)).cell? ⟨P, 1024 + o / 8 * 4, none⟩ = some (.int .u8 k) := HB1.out.cell' p0 (HQ.out 0 (by omega))
  have b1 : (w.alloc (.cells #[.int .u8 0, .int .u64 0, .int .i64 0, .int .i64 0] 33)).cell? ⟨P, 1024 + o / 8 * 4 + 1, none⟩ = some (.int .u64 wd) := HB1.out.cell' p1 (HQ.out 1 (by omega))
  have b2 : (w.alloc (.cells #[.int .u8 0, .int .u64 0, .int .i64 0, .int .i64 0] 33)).cell? ⟨P, 1024 + o / 8 * 4 + 2, none⟩ = some (.int .i64 rg) := HB1.out.cell' p2 (HQ.out 2 (by omega))
  have b3 : (w.alloc (.cells #[.int .u8 0, .int .u64 0, .int .i64 0, .int .i64 0] 33)).cell? ⟨P, 1024 + o / 8 * 4 + 3, none⟩ = some (.int .i64 of_) := HB1.out.cell' p3 (HQ.out 3 (by omega))
  clear p0 p1 p2 p3
  go_wp2_with fail
  refine bodyPost_ret (resR_load (al_at _ _) rfl rfl) rfl ⟨rfl, ?_⟩
  exact (But.refl [] w).alloc _
set_option maxRecDepth 100000 in
set_option maxHeartbeats 4000000 in
theorem loadR_bytes0 (P o n : Nat) (R : RStk) (w : World) (hn : sizeB n = true) (hn8 : n ≤ 8) (hon : o + n ≤ 512) (hR : ByteR R) (hB : Blk w P 36 1280 R.val) (g1 : ¬ ((n : Int) = 8)) :
    Calls Try.prog 13 #[.pointer (some ⟨P, 0, none⟩), .int .i64 (o : Int), .int .i64 (n : Int)] w fun e w' => (bitsR R o n = true ∧ e = .returned (.tuple #[(CV.mk 1 (leV (rowR R o n)) 0 0).agg, .int .i64 0]) ∧ But [] w w') ∨ (bitsR R o n = false ∧ e = .returned (.tuple #[c0.agg, .int .i64 30]) ∧ But [] w w') := by
  have HT := Lib.hid (fun W => thereR o (n : Int) W (by omega) (by omega))
  have HN := Lib.hid hn
  have HD : Hid (decide (0 ≤ (o : Int) ∧ (o : Int) ≤ 512 - (n : Int)) = true) := Lib.hid (decide_eq_true (by omega))
  have HB := Lib.hid hB
  have HON := Lib.hid hon
  have HBR := Lib.hid (rowR_byte hR hon)
  have hn1 : (1 : Int) ≤ (n : Int) := by have := size_posR hn; omega
  have HA := Lib.hid (fun W (hb : But [] w W) => allR_c P o n R W hon (hB.but hb (by simp)))
  clear hn hB hon hR
  go_enter Try.func13, Try.ntmps13
  go_wp2_with fail
  refine (sizeR _ _).mono ?_
  rintro e w1 ⟨rfl, rfl⟩
  rw [HN.out]
  go_wp2_with fail
  refine (HT.out _).mono ?_
  rintro e w1 ⟨rfl, rfl⟩
  rw [HD.out]
  go_wp2_with fail
  refine (HA.out _ ((But.refl [] w).alloc _)).mono ?_
  rintro e w1 ⟨rfl, rfl⟩
  cases hbt : bitsR R o n with
  | false =>
    have HBT := Lib.hid hbt
    clear hbt g1 HA HT
    go_wp2_with fail
    refine bodyPost_ret (resR_load (al_at _ _) rfl rfl) rfl (.inr ⟨HBT.out, rfl, ?_⟩)
    exact (But.refl [] w).alloc _
  | true =>
    have HBT := Lib.hid hbt
    have hwn : wrap64 ((n : Int) - 1) = (n : Int) - 1 := by rw [wrap64]; omega
    clear hbt g1 HA HT
    go_wp2_with fail
    go_loopw [9] (fun i wr => ∃ k : Int, -1 ≤ k ∧ k < (n : Int) ∧ i = .int .i64 k ∧ wr.heap[w.heap.size + 1]? = some (.cells #[.int .u8 1, .int .u64 (leV ((rowR R o n).drop (k + 1).toNat)), .int .i64 0, .int .i64 0] 33) ∧ wr.heap[w.heap.size]? = some (.cells #[.int .u8 0, .int .u64 0, .int .i64 0, .int .i64 0] 33) ∧ But [] w wr) (fun i _ => (intOf i + 1).toNat)
    case atStart =>
      refine ⟨(n : Int) - 1, by omega, by omega, rfl, ?_, ?_, ?_⟩
      · rw [List.drop_eq_nil_of_le (by rw [rowR_len]; omega)]
        exact al_eq _ _ _ (size_alloc _ _)
      · exact al_keep (al_at _ _) _
      · exact ((But.refl [] w).alloc _).alloc _
    case round =>
      obtain ⟨k, hk0, hkn, rfl, hb, hr, hbw⟩ := hrel
      by_cases h0 : 0 ≤ k
      · obtain ⟨q, rfl⟩ := Int.eq_ofNat_of_zero_le h0
        have hqn : q < n := by omega
        have hl0 : q < (rowR R o n).length := by rw [rowR_len]; exact hqn
        have hlv := leV_drop hl0
        rw [rowR_at hqn] at hlv
        have hbd := leV_bd (l := (rowR R o n).drop (q + 1)) (fun x hx => HBR.out x (List.mem_of_mem_drop hx)) (by rw [List.length_drop, rowR_len]; omega)
        have hxb := HBR.out (R.b (o + q)) (by rw [← rowR_at (R := R) (o := o) hqn, List.getD_eq_getElem?_getD, List.getElem?_eq_getElem hl0]; exact List.getElem_mem _)
        rw [show ((q : Int) + 1).toNat = q + 1 by omega] at hb
        obtain ⟨V, hV⟩ : ∃ V, V = leV ((rowR R o n).drop (q + 1)) := ⟨_, rfl⟩
        obtain ⟨X, hX⟩ : ∃ X, X = R.b (o + q) := ⟨_, rfl⟩
        rw [← hV] at hb hbd hlv
        rw [← hX] at hxb hlv
        obtain ⟨r0, r1, r2, r3, r4, r5, r6, r7⟩ := load_nums hqn HON.out
        have cx : wr.cell? ⟨P, o + q, none⟩ = some (.int .u8 X) := by rw [hX]; exact (HB.out.but hbw (by simp)).cell' r3 (rval_b R r2)
        have cv : wr.cell? ⟨w.heap.size + 1, 1, none⟩ = some (.int .u64 V) := cl_of hb 1
        have fv : wr.frozen? ⟨w.heap.size + 1, 1, none⟩ = false := by (unfold World.frozen?; rw [hb]; simp)
        have hj : bits .or .u64 (V * 256) X = V * 256 + X := joinU64 hbd.1 hbd.2 hxb.1 hxb.2
        have hw8 : IntKind.u64.wrap (V * 256) = V * 256 := by rw [IntKind.wrap_u64]; omega
        have hwx : IntKind.u64.wrap X = X := by rw [IntKind.wrap_u64]; omega
        have HLV := Lib.hid hlv
        have HNX : Hid (((wr.setCell ⟨w.heap.size + 1, 1, none⟩ (.int .u64 (V * 256 + X))).drew.heap[w.heap.size + 1]? = some (.cells #[.int .u8 1, .int .u64 (V * 256 + X), .int .i64 0, .int .i64 0] 33)) ∧ ((wr.setCell ⟨w.heap.size + 1, 1, none⟩ (.int .u64 (V * 256 + X))).drew.heap[w.heap.size]? = some (.cells #[.int .u8 0, .int .u64 0, .int .i64 0, .int .i64 0] 33)) ∧ But [] w (wr.setCell ⟨w.heap.size + 1, 1, none⟩ (.int .u64 (V * 256 + X))).drew) := Lib.hid ⟨heap_set hb, (But.heap ((But.refl [w.heap.size + 1] wr).setCell (.inl (by simp)) _) hr (by simp)), (hbw.setCell (.inr (by simp)) _).drew⟩
        clear hb hr hbw hlv hbd hxb hV hX hl0 r2 r3 hqn h0
        go_upto_region 13 with fail
        refine wp_region_tail9 14 (by kernel_rfl) (by kernel_rfl) ?_
        simp only [List.take_succ_cons, List.take_zero, List.drop_succ_cons, List.drop_zero]
        repeat still_step
        refine wpStill_nil ?_
        go_wp2_with fail
        all_goals
          go_roundw
          case rel => exact ⟨(q : Int) - 1, by omega, by omega, rfl, by rw [show ((q : Int) - 1 + 1).toNat = q by omega, HLV.out]; exact HNX.out.1, HNX.out.2.1, HNX.out.2.2⟩
          case measure => (simp [intOf]) <;> omega
      · obtain rfl : k = -1 := by omega
        have hv : ((rowR R o n).drop (-1 + 1 : Int).toNat) = rowR R o n := rfl
        rw [hv] at hb
        obtain ⟨V, hV⟩ : ∃ V, V = leV (rowR R o n) := ⟨_, rfl⟩
        rw [← hV] at hb
        have HV := Lib.hid hV
        have c0_ := cl_of hb 0
        have c1_ := cl_of hb 1
        have c2_ := cl_of hb 2
        have c3_ := cl_of hb 3
        simp only [List.getElem?_toArray, List.getElem?_cons_zero, List.getElem?_cons_succ] at c0_ c1_ c2_ c3_
        have e0 := cl_of hr 0
        have e1 := cl_of hr 1
        have e2 := cl_of hr 2
        have e3 := cl_of hr 3
        simp only [List.getElem?_toArray, List.getElem?_cons_zero, List.getElem?_cons_succ] at e0 e1 e2 e3
        have hf : ∀ i, wr.frozen? ⟨w.heap.size, i, none⟩ = false := fun i => by (unfold World.frozen?; rw [hr]; simp)
        have f0 := hf 0
        have f1 := hf 1
        have f2 := hf 2
        have f3 := hf 3
        have HRR := Lib.hid hr
        have HBW := Lib.hid hbw
        clear hb hr hbw hf hV hv h0
        go_wp2_with fail
        have h4 := set4 (a' := .int .u8 1) (b' := .int .u64 V) (c' := .int .i64 0) (d' := .int .i64 0) HRR.out
        refine bodyPost_ret (resR_load h4 rfl rfl) rfl (.inl ⟨HBT.out, ?_, ?_⟩)
        · rw [← HV.out]; rfl
        · exact HBW.out.trans (but4 _ _ _ _) (fun y hy => .inr (by simp at hy; omega))
set_option maxRecDepth 100000 in
set_option maxHeartbeats 4000000 in
theorem loadR_bytes1 (P o : Nat) (R : RStk) (w : World) (hon : o + 8 ≤ 512) (hR : ByteR R) (hB : Blk w P 36 1280 R.val) (g2 : ¬ ((o : Int) % 8 = 0)) :
    Calls Try.prog 13 #[.pointer (some ⟨P, 0, none⟩), .int .i64 (o : Int), .int .i64 8] w fun e w' => (bitsR R o 8 = true ∧ e = .returned (.tuple #[(CV.mk 1 (leV (rowR R o 8)) 0 0).agg, .int .i64 0]) ∧ But [] w w') ∨ (bitsR R o 8 = false ∧ e = .returned (.tuple #[c0.agg, .int .i64 30]) ∧ But [] w w') := by
  have hn : sizeB 8 = true := rfl
  have HT := Lib.hid (fun W => thereR o 8 W (by omega) (by omega))
  have HN := Lib.hid hn
  have HD : Hid (decide (0 ≤ (o : Int) ∧ (o : Int) ≤ 512 - 8) = true) := Lib.hid (decide_eq_true (by omega))
  have HB := Lib.hid hB
  have HON := Lib.hid hon
  have HBR := Lib.hid (rowR_byte hR hon)
  have hn1 : (1 : Int) ≤ 8 := by have := size_posR hn; omega
  have HA := Lib.hid (fun W (hb : But [] w W) => allR_c P o 8 R W hon (hB.but hb (by simp)))
  clear hn hB hon hR
  go_enter Try.func13, Try.ntmps13
  go_wp2_with fail
  refine (sizeR _ _).mono ?_
  rintro e w1 ⟨rfl, rfl⟩
  rw [HN.out]
  go_wp2_with fail
  refine (HT.out _).mono ?_
  rintro e w1 ⟨rfl, rfl⟩
  rw [HD.out]
  go_wp2_with fail
  refine (HA.out _ ((But.refl [] w).alloc _)).mono ?_
  rintro e w1 ⟨rfl, rfl⟩
  cases hbt : bitsR R o 8 with
  | false =>
    have HBT := Lib.hid hbt
    clear hbt g2 HA HT
    go_wp2_with fail
    refine bodyPost_ret (resR_load (al_at _ _) rfl rfl) rfl (.inr ⟨HBT.out, rfl, ?_⟩)
    exact (But.refl [] w).alloc _
  | true =>
    have HBT := Lib.hid hbt
    have hwn : wrap64 (8 - 1) = 8 - 1 := by rw [wrap64]; omega
    clear hbt g2 HA HT
    go_wp2_with fail
    go_loopw [9] (fun i wr => ∃ k : Int, -1 ≤ k ∧ k < 8 ∧ i = .int .i64 k ∧ wr.heap[w.heap.size + 1]? = some (.cells #[.int .u8 1, .int .u64 (leV ((rowR R o 8).drop (k + 1).toNat)), .int .i64 0, .int .i64 0] 33) ∧ wr.heap[w.heap.size]? = some (.cells #[.int .u8 0, .int .u64 0, .int .i64 0, .int .i64 0] 33) ∧ But [] w wr) (fun i _ => (intOf i + 1).toNat)
    case atStart =>
      refine ⟨8 - 1, by omega, by omega, rfl, ?_, ?_, ?_⟩
      · rw [List.drop_eq_nil_of_le (by rw [rowR_len]; omega)]
        exact al_eq _ _ _ (size_alloc _ _)
      · exact al_keep (al_at _ _) _
      · exact ((But.refl [] w).alloc _).alloc _
    case round =>
      obtain ⟨k, hk0, hkn, rfl, hb, hr, hbw⟩ := hrel
      by_cases h0 : 0 ≤ k
      · obtain ⟨q, rfl⟩ := Int.eq_ofNat_of_zero_le h0
        have hqn : q < 8 := by omega
        have hl0 : q < (rowR R o 8).length := by rw [rowR_len]; exact hqn
        have hlv := leV_drop hl0
        rw [rowR_at hqn] at hlv
        have hbd := leV_bd (l := (rowR R o 8).drop (q + 1)) (fun x hx => HBR.out x (List.mem_of_mem_drop hx)) (by rw [List.length_drop, rowR_len]; omega)
        have hxb := HBR.out (R.b (o + q)) (by rw [← rowR_at (R := R) (o := o) hqn, List.getD_eq_getElem?_getD, List.getElem?_eq_getElem hl0]; exact List.getElem_mem _)
        rw [show ((q : Int) + 1).toNat = q + 1 by omega] at hb
        obtain ⟨V, hV⟩ : ∃ V, V = leV ((rowR R o 8).drop (q + 1)) := ⟨_, rfl⟩
        obtain ⟨X, hX⟩ : ∃ X, X = R.b (o + q) := ⟨_, rfl⟩
        rw [← hV] at hb hbd hlv
        rw [← hX] at hxb hlv
        obtain ⟨r0, r1, r2, r3, r4, r5, r6, r7⟩ := load_nums hqn HON.out
        have cx : wr.cell? ⟨P, o + q, none⟩ = some (.int .u8 X) := by rw [hX]; exact (HB.out.but hbw (by simp)).cell' r3 (rval_b R r2)
        have cv : wr.cell? ⟨w.heap.size + 1, 1, none⟩ = some (.int .u64 V) := cl_of hb 1
        have fv : wr.frozen? ⟨w.heap.size + 1, 1, none⟩ = false := by (unfold World.frozen?; rw [hb]; simp)
        have hj : bits .or .u64 (V * 256) X = V * 256 + X := joinU64 hbd.1 hbd.2 hxb.1 hxb.2
        have hw8 : IntKind.u64.wrap (V * 256) = V * 256 := by rw [IntKind.wrap_u64]; omega
        have hwx : IntKind.u64.wrap X = X := by rw [IntKind.wrap_u64]; omega
        have HLV := Lib.hid hlv
        have HNX : Hid (((wr.setCell ⟨w.heap.size + 1, 1, none⟩ (.int .u64 (V * 256 + X))).drew.heap[w.heap.size + 1]? = some (.cells #[.int .u8 1, .int .u64 (V * 256 + X), .int .i64 0, .int .i64 0] 33)) ∧ ((wr.setCell ⟨w.heap.size + 1, 1, none⟩ (.int .u64 (V * 256 + X))).drew.heap[w.heap.size]? = some (.cells #[.int .u8 0, .int .u64 0, .int .i64 0, .int .i64 0] 33)) ∧ But [] w (wr.setCell ⟨w.heap.size + 1, 1, none⟩ (.int .u64 (V * 256 + X))).drew) := Lib.hid ⟨heap_set hb, (But.heap ((But.refl [w.heap.size + 1] wr).setCell (.inl (by simp)) _) hr (by simp)), (hbw.setCell (.inr (by simp)) _).drew⟩
        clear hb hr hbw hlv hbd hxb hV hX hl0 r2 r3 hqn h0
        go_upto_region 13 with fail
        refine wp_region_tail9 14 (by kernel_rfl) (by kernel_rfl) ?_
        simp only [List.take_succ_cons, List.take_zero, List.drop_succ_cons, List.drop_zero]
        repeat still_step
        refine wpStill_nil ?_
        go_wp2_with fail
        all_goals
          go_roundw
          case rel => exact ⟨(q : Int) - 1, by omega, by omega, rfl, by rw [show ((q : Int) - 1 + 1).toNat = q by omega, HLV.out]; exact HNX.out.1, HNX.out.2.1, HNX.out.2.2⟩
          case measure => (simp [intOf]) <;> omega
      · obtain rfl : k = -1 := by omega
        have hv : ((rowR R o 8).drop (-1 + 1 : Int).toNat) = rowR R o 8 := rfl
        rw [hv] at hb
        obtain ⟨V, hV⟩ : ∃ V, V = leV (rowR R o 8) := ⟨_, rfl⟩
        rw [← hV] at hb
        have HV := Lib.hid hV
        have c0_ := cl_of hb 0
        have c1_ := cl_of hb 1
        have c2_ := cl_of hb 2
        have c3_ := cl_of hb 3
        simp only [List.getElem?_toArray, List.getElem?_cons_zero, List.getElem?_cons_succ] at c0_ c1_ c2_ c3_
        have e0 := cl_of hr 0
        have e1 := cl_of hr 1
        have e2 := cl_of hr 2
        have e3 := cl_of hr 3
        simp only [List.getElem?_toArray, List.getElem?_cons_zero, List.getElem?_cons_succ] at e0 e1 e2 e3
        have hf : ∀ i, wr.frozen? ⟨w.heap.size, i, none⟩ = false := fun i => by (unfold World.frozen?; rw [hr]; simp)
        have f0 := hf 0
        have f1 := hf 1
        have f2 := hf 2
        have f3 := hf 3
        have HRR := Lib.hid hr
        have HBW := Lib.hid hbw
        clear hb hr hbw hf hV hv h0
        go_wp2_with fail
        have h4 := set4 (a' := .int .u8 1) (b' := .int .u64 V) (c' := .int .i64 0) (d' := .int .i64 0) HRR.out
        refine bodyPost_ret (resR_load h4 rfl rfl) rfl (.inl ⟨HBT.out, ?_, ?_⟩)
        · rw [← HV.out]; rfl
        · exact HBW.out.trans (but4 _ _ _ _) (fun y hy => .inr (by simp at hy; omega))
set_option maxRecDepth 100000 in
set_option maxHeartbeats 4000000 in
theorem loadR_bytes2 (P o : Nat) (R : RStk) (w : World) (hon : o + 8 ≤ 512) (hR : ByteR R) (hB : Blk w P 36 1280 R.val) (g2 : (o : Int) % 8 = 0) (g3 : (R.whole (o / 8)).k = 0) :
    Calls Try.prog 13 #[.pointer (some ⟨P, 0, none⟩), .int .i64 (o : Int), .int .i64 8] w fun e w' => (bitsR R o 8 = true ∧ e = .returned (.tuple #[(CV.mk 1 (leV (rowR R o 8)) 0 0).agg, .int .i64 0]) ∧ But [] w w') ∨ (bitsR R o 8 = false ∧ e = .returned (.tuple #[c0.agg, .int .i64 30]) ∧ But [] w w') := by
  have hn : sizeB 8 = true := rfl
  have HT := Lib.hid (fun W => thereR o 8 W (by omega) (by omega))
  have HN := Lib.hid hn
  have HD : Hid (decide (0 ≤ (o : Int) ∧ (o : Int) ≤ 512 - 8) = true) := Lib.hid (decide_eq_true (by omega))
  have HB := Lib.hid hB
  have HON := Lib.hid hon
  have HBR := Lib.hid (rowR_byte hR hon)
  have hn1 : (1 : Int) ≤ 8 := by have := size_posR hn; omega
  have HA := Lib.hid (fun W (hb : But [] w W) => allR_c P o 8 R W hon (hB.but hb (by simp)))
  clear hn hB hon hR
  go_enter Try.func13, Try.ntmps13
  go_wp2_with fail
  refine (sizeR _ _).mono ?_
  rintro e w1 ⟨rfl, rfl⟩
  rw [HN.out]
  go_wp2_with fail
  refine (HT.out _).mono ?_
  rintro e w1 ⟨rfl, rfl⟩
  rw [HD.out]
  have HB1 := Lib.hid (HB.out.but ((But.refl [] w).alloc (.cells #[.int .u8 0, .int .u64 0, .int .i64 0, .int .i64 0] 33)) (by simp))
  obtain ⟨p0, p1, p2, p3, q0, q1, q2, q3, q4⟩ := whole_nums HON.out
  have b0 : (w.alloc (.cells #[.int .u8 0, .int .u64 0, .int .i64 0, .int .i64 0] 33)).cell? ⟨P, 1024 + o / 8 * 4, none⟩ = some (.int .u8 0) := HB1.out.cell' p0 ((rval_whole R q3 (by omega : 0 < 4)).trans (by show Value.int .u8 (R.whole (o / 8)).k = _; rw [g3]))
  clear p0 p1 p2 p3 g3
  go_wp2_with fail
  refine (HA.out _ ((But.refl [] w).alloc _)).mono ?_
  rintro e w1 ⟨rfl, rfl⟩
  cases hbt : bitsR R o 8 with
  | false =>
    have HBT := Lib.hid hbt
    clear hbt g2 b0 HA HT
    go_wp2_with fail
    refine bodyPost_ret (resR_load (al_at _ _) rfl rfl) rfl (.inr ⟨HBT.out, rfl, ?_⟩)
    exact (But.refl [] w).alloc _
  | true =>
    have HBT := Lib.hid hbt
    have hwn : wrap64 (8 - 1) = 8 - 1 := by rw [wrap64]; omega
    clear hbt g2 b0 HA HT
    go_wp2_with fail
    go_loopw [9] (fun i wr => ∃ k : Int, -1 ≤ k ∧ k < 8 ∧ i = .int .i64 k ∧ wr.heap[w.heap.size + 1]? = some (.cells #[.int .u8 1, .int .u64 (leV ((rowR R o 8).drop (k + 1).toNat)), .int .i64 0, .int .i64 0] 33) ∧ wr.heap[w.heap.size]? = some (.cells #[.int .u8 0, .int .u64 0, .int .i64 0, .int .i64 0] 33) ∧ But [] w wr) (fun i _ => (intOf i + 1).toNat)
    case atStart =>
      refine ⟨8 - 1, by omega, by omega, rfl, ?_, ?_, ?_⟩
      · rw [List.drop_eq_nil_of_le (by rw [rowR_len]; omega)]
        exact al_eq _ _ _ (size_alloc _ _)
      · exact al_keep (al_at _ _) _
      · exact ((But.refl [] w).alloc _).alloc _
    case round =>
      obtain ⟨k, hk0, hkn, rfl, hb, hr, hbw⟩ := hrel
      by_cases h0 : 0 ≤ k
      · obtain ⟨q, rfl⟩ := Int.eq_ofNat_of_zero_le h0
        have hqn : q < 8 := by omega
        have hl0 : q < (rowR R o 8).length := by rw [rowR_len]; exact hqn
        have hlv := leV_drop hl0
        rw [rowR_at hqn] at hlv
        have hbd := leV_bd (l := (rowR R o 8).drop (q + 1)) (fun x hx => HBR.out x (List.mem_of_mem_drop hx)) (by rw [List.length_drop, rowR_len]; omega)
        have hxb := HBR.out (R.b (o + q)) (by rw [← rowR_at (R := R) (o := o) hqn, List.getD_eq_getElem?_getD, List.getElem?_eq_getElem hl0]; exact List.getElem_mem _)
        rw [show ((q : Int) + 1).toNat = q + 1 by omega] at hb
        obtain ⟨V, hV⟩ : ∃ V, V = leV ((rowR R o 8).drop (q + 1)) := ⟨_, rfl⟩
        obtain ⟨X, hX⟩ : ∃ X, X = R.b (o + q) := ⟨_, rfl⟩
        rw [← hV] at hb hbd hlv
        rw [← hX] at hxb hlv
        obtain ⟨r0, r1, r2, r3, r4, r5, r6, r7⟩ := load_nums hqn HON.out
        have cx : wr.cell? ⟨P, o + q, none⟩ = some (.int .u8 X) := by rw [hX]; exact (HB.out.but hbw (by simp)).cell' r3 (rval_b R r2)
        have cv : wr.cell? ⟨w.heap.size + 1, 1, none⟩ = some (.int .u64 V) := cl_of hb 1
        have fv : wr.frozen? ⟨w.heap.size + 1, 1, none⟩ = false := by (unfold World.frozen?; rw [hb]; simp)
        have hj : bits .or .u64 (V * 256) X = V * 256 + X := joinU64 hbd.1 hbd.2 hxb.1 hxb.2
        have hw8 : IntKind.u64.wrap (V * 256) = V * 256 := by rw [IntKind.wrap_u64]; omega
        have hwx : IntKind.u64.wrap X = X := by rw [IntKind.wrap_u64]; omega
        have HLV := Lib.hid hlv
        have HNX : Hid (((wr.setCell ⟨w.heap.size + 1, 1, none⟩ (.int .u64 (V * 256 + X))).drew.heap[w.heap.size + 1]? = some (.cells #[.int .u8 1, .int .u64 (V * 256 + X), .int .i64 0, .int .i64 0] 33)) ∧ ((wr.setCell ⟨w.heap.size + 1, 1, none⟩ (.int .u64 (V * 256 + X))).drew.heap[w.heap.size]? = some (.cells #[.int .u8 0, .int .u64 0, .int .i64 0, .int .i64 0] 33)) ∧ But [] w (wr.setCell ⟨w.heap.size + 1, 1, none⟩ (.int .u64 (V * 256 + X))).drew) := Lib.hid ⟨heap_set hb, (But.heap ((But.refl [w.heap.size + 1] wr).setCell (.inl (by simp)) _) hr (by simp)), (hbw.setCell (.inr (by simp)) _).drew⟩
        clear hb hr hbw hlv hbd hxb hV hX hl0 r2 r3 hqn h0
        go_upto_region 13 with fail
        refine wp_region_tail9 14 (by kernel_rfl) (by kernel_rfl) ?_
        simp only [List.take_succ_cons, List.take_zero, List.drop_succ_cons, List.drop_zero]
        repeat still_step
        refine wpStill_nil ?_
        go_wp2_with fail
        all_goals
          go_roundw
          case rel => exact ⟨(q : Int) - 1, by omega, by omega, rfl, by rw [show ((q : Int) - 1 + 1).toNat = q by omega, HLV.out]; exact HNX.out.1, HNX.out.2.1, HNX.out.2.2⟩
          case measure => (simp [intOf]) <;> omega
      · obtain rfl : k = -1 := by omega
        have hv : ((rowR R o 8).drop (-1 + 1 : Int).toNat) = rowR R o 8 := rfl
        rw [hv] at hb
        obtain ⟨V, hV⟩ : ∃ V, V = leV (rowR R o 8) := ⟨_, rfl⟩
        rw [← hV] at hb
        have HV := Lib.hid hV
        have c0_ := cl_of hb 0
        have c1_ := cl_of hb 1
        have c2_ := cl_of hb 2
        have c3_ := cl_of hb 3
        simp only [List.getElem?_toArray, List.getElem?_cons_zero, List.getElem?_cons_succ] at c0_ c1_ c2_ c3_
        have e0 := cl_of hr 0
        have e1 := cl_of hr 1
        have e2 := cl_of hr 2
        have e3 := cl_of hr 3
        simp only [List.getElem?_toArray, List.getElem?_cons_zero, List.getElem?_cons_succ] at e0 e1 e2 e3
        have hf : ∀ i, wr.frozen? ⟨w.heap.size, i, none⟩ = false := fun i => by (unfold World.frozen?; rw [hr]; simp)
        have f0 := hf 0
        have f1 := hf 1
        have f2 := hf 2
        have f3 := hf 3
        have HRR := Lib.hid hr
        have HBW := Lib.hid hbw
        clear hb hr hbw hf hV hv h0
        go_wp2_with fail
        have h4 := set4 (a' := .int .u8 1) (b' := .int .u64 V) (c' := .int .i64 0) (d' := .int .i64 0) HRR.out
        refine bodyPost_ret (resR_load h4 rfl rfl) rfl (.inl ⟨HBT.out, ?_, ?_⟩)
        · rw [← HV.out]; rfl
        · exact HBW.out.trans (but4 _ _ _ _) (fun y hy => .inr (by simp at hy; omega))
theorem LoadR_c (P : Nat) (R : RStk) (off n : Int) (w : World) (hR : ByteR R) (hB : Blk w P 36 1280 R.val) :
    Calls Try.prog 13 #[.pointer (some ⟨P, 0, none⟩), .int .i64 off, .int .i64 n] w fun e w' => e = .returned (.tuple #[(loadVR R off n).agg, .int .i64 (loadER R off n)]) ∧ But [] w w' := by
  by_cases hE : checkE off n (sizeB n) = 0
  · obtain ⟨hs, h0, h1⟩ := checkE_ok hE
    obtain ⟨hn0, hn8⟩ := size_cases hs
    obtain ⟨o, rfl⟩ := Int.eq_ofNat_of_zero_le h0
    obtain ⟨m, rfl⟩ := Int.eq_ofNat_of_zero_le hn0
    have hm8 : m ≤ 8 := by omega
    have hon : o + m ≤ 512 := by omega
    have ho8 : ((o : Int) / 8).toNat = o / 8 := by omega
    by_cases hw : wholeAtR R o m = true
    · have h := of_decide_eq_true hw
      rw [ho8] at h
      have hl : loadER R o m = 0 := by unfold loadER; rw [if_neg (fun x => x hE), if_pos (.inl hw)]
      obtain rfl : m = 8 := by omega
      refine (loadR_whole P o R w hon hB h.2.1 h.2.2).mono ?_
      rintro e w' ⟨rfl, hb⟩
      refine ⟨?_, hb⟩
      unfold loadVR
      rw [hl, if_neg (by decide), if_pos hw, ho8]
    · have hwf : ¬ (m = 8 ∧ (o : Int) % 8 = 0 ∧ (R.whole (o / 8)).k ≠ 0) := fun h => hw (decide_eq_true ⟨by omega, h.2.1, by rw [ho8]; exact h.2.2⟩)
      have hgo : Calls Try.prog 13 #[.pointer (some ⟨P, 0, none⟩), .int .i64 (o : Int), .int .i64 (m : Int)] w fun e w' => (bitsR R o m = true ∧ e = .returned (.tuple #[(CV.mk 1 (leV (rowR R o m)) 0 0).agg, .int .i64 0]) ∧ But [] w w') ∨ (bitsR R o m = false ∧ e = .returned (.tuple #[c0.agg, .int .i64 30]) ∧ But [] w w') := by
        by_cases g1 : m = 8
        · subst g1
          by_cases g2 : (o : Int) % 8 = 0
          · by_cases g3 : (R.whole (o / 8)).k = 0
            · exact loadR_bytes2 P o R w hon hR hB g2 g3
            · exact absurd ⟨rfl, g2, g3⟩ hwf
          · exact loadR_bytes1 P o R w hon hR hB g2
        · exact loadR_bytes0 P o m R w hs hm8 hon hR hB (by omega)
      refine hgo.mono ?_
      rintro e w' (⟨hbt, rfl, hb⟩ | ⟨hbt, rfl, hb⟩)
      · have hl : loadER R o m = 0 := by unfold loadER; rw [if_neg (fun x => x hE), if_pos (.inr hbt)]
        refine ⟨?_, hb⟩
        unfold loadVR
        rw [hl, if_neg (by decide), if_neg hw]
        rfl
      · have hl : loadER R o m = 30 := by unfold loadER; rw [if_neg (fun x => x hE), if_neg (fun h => h.elim hw (fun h => by rw [show (o : Int).toNat = o from rfl, show (m : Int).toNat = m from rfl, hbt] at h; cases h))]
        refine ⟨?_, hb⟩
        unfold loadVR
        rw [hl, if_pos (by decide)]
  · have hl : loadER R off n = checkE off n (sizeB n) := by unfold loadER; rw [if_pos hE]
    have hv : loadVR R off n = c0 := by unfold loadVR; rw [hl, if_pos hE]
    rw [hv]
    cases hs : sizeB n with
    | false =>
      rw [hl, hs]
      exact loadR_size P R off n w hs
    | true =>
      have ht : ¬ (0 ≤ off ∧ off ≤ 512 - n) := fun h => hE (by rw [hs]; unfold checkE; exact (if_pos rfl).trans (if_pos h))
      have h2 : loadER R off n = 32 := by rw [hl, hs]; unfold checkE; exact (if_pos rfl).trans (if_neg ht)
      rw [h2]
      exact loadR_there P R off n w hs ht
end Go.Proofs.Ytmaeiifhmngllaa.M
namespace Go.Proofs.Ytmaeiifhmngllaa.M
open Go.RowKit
set_option linter.unusedVariables false
set_option linter.unusedSectionVars false
set_option linter.unusedSimpArgs false
def VR0 : Array Value := ((List.range 1280).map R0.val).toArray
theorem zero_r (w : World) : (zeroValue 36).run Try.prog w = .ok (.agg VR0) w := by kernel_rfl
theorem vr0_size : VR0.size = 1280 := by simp [VR0]
theorem vr0_blk (w : World) : Blk (w.alloc (.cells VR0 36)) w.heap.size 36 1280 R0.val :=
  ⟨_, al_at _ _, by simp [VR0], fun i hi => by
    unfold VR0
    rw [List.getElem?_toArray, List.getElem?_map, List.getElem?_range hi]
    rfl⟩
/-- Both stacks stand. -/
structure DoH (W3 : World) (Q P : Nat) (S : Stk) (R : RStk) (wr : World) : Prop where
  blk : Blk wr Q 57 833 (S.val true)
  rblk : Blk wr P 36 1280 R.val
  but : But [Q, P] W3 wr
theorem DoH.to {W3 : World} {Q P : Nat} {S : Stk} {R : RStk} {wr wx : World} (h : DoH W3 Q P S R wr) (hb : But [] wr wx) : DoH W3 Q P S R wx :=
  ⟨h.blk.but hb (by simp), h.rblk.but hb (by simp), h.but.trans hb (by simp)⟩
theorem DoH.code {W3 : World} {Q P : Nat} {S S' : Stk} {R : RStk} {wr wx : World} (h : DoH W3 Q P S R wr) (hQP : Q ≠ P) (hB : Blk wx Q 57 833 (S'.val true)) (hb : But [Q] wr wx) : DoH W3 Q P S' R wx :=
  ⟨hB, h.rblk.but hb (by simp only [List.mem_singleton]; exact hQP.symm), h.but.trans hb (fun x hx => .inl (by simp at hx; simp [hx]))⟩
theorem DoH.ref {W3 : World} {Q P : Nat} {S : Stk} {R R' : RStk} {wr wx : World} (h : DoH W3 Q P S R wr) (hQP : Q ≠ P) (hB : Blk wx P 36 1280 R'.val) (hb : But [P] wr wx) : DoH W3 Q P S R' wx :=
  ⟨h.blk.but hb (by simp only [List.mem_singleton]; exact hQP), hB, h.but.trans hb (fun x hx => .inl (by simp at hx; simp [hx]))⟩
/-- OverBytes, of any capacity. -/
theorem over_big (g o n c : Nat) (cur : Array Value) (w : World) (hg : w.heap[g]? = some (.cells cur 5 (0, 0))) (hs : o + c ≤ cur.size) (hn : n ≤ c) (hn9 : n ≤ 1000000000000) (hq : ¬ (c : Int) ≤ n + 12) :
    Calls Try.prog 17 #[.slice (some ⟨g, o, none⟩) n c] w fun e w' => e = .returned (.tuple #[]) ∧ But [g] w w' := by
  have HG := Lib.hid hg
  have hlt := lt_of hg
  have e : ((n : Int) + 12).toNat = n + 12 := by omega
  clear hg
  go_enter Try.func17, Try.ntmps17
  go_wp2_with fail
  go_loopw [3] (fun i wr => ∃ k : Nat, k ≤ n + 12 ∧ i = .int .i64 k ∧ (∃ cu, wr.heap[g]? = some (.cells cu 5 (0, 0)) ∧ cu.size = cur.size) ∧ But [g] w wr) (fun i _ => n + 12 - (intOf i).toNat)
  case atStart => exact ⟨0, Nat.zero_le _, rfl, ⟨cur, HG.out, rfl⟩, But.refl _ _⟩
  case round =>
    obtain ⟨k, hk, rfl, ⟨cu, hcu, hsz⟩, hb⟩ := hrel
    have HB := Lib.hid hb
    have HC := Lib.hid hcu
    have HZ := Lib.hid hsz
    clear hb hcu hsz
    by_cases hlt2 : k < n + 12
    · have hk0 : (0 : Int) ≤ k := by omega
      have hki : (k : Int) < (n : Int) + 12 := by omega
      have hks : o + k < cu.size := by rw [HZ.out]; omega
      have c1 : wr.cell? ⟨g, o + k, none⟩ = some (cu[o + k]'hks) := by
        unfold World.cell?
        rw [HC.out]
        simp [hks]
      have f1 : wr.frozen? ⟨g, o + k, none⟩ = false := by
        unfold World.frozen?
        rw [HC.out]
        simp
      go_wp2_with (go_at_call 33; refine (markB _ _ _).mono ?_; rintro e w1 ⟨rfl, rfl⟩)
      go_roundw
      case rel => exact ⟨k + 1, by omega, by go_num, ⟨cu.setIfInBounds (o + k) (.int .u8 (mb 2 k)), by simp [World.setCell, Array.getElem?_modify, HC.out], by simpa using HZ.out⟩, HB.out.setCell (.inl (by simp)) _⟩
      case measure => simp [intOf]; omega
    · obtain rfl : k = n + 12 := by omega
      go_wp2_with fail
      go_end0
      exact ⟨rfl, HB.out⟩
/-- A row that was made since is written over. -/
theorem over_new {w0 w : World} {v : Value} {bs : List Int} (h : NewRow w0 w v bs) (hl : bs.length ≤ 512) : Calls Try.prog 17 #[v] w fun e w' => e = .returned (.tuple #[]) ∧ ∃ L, But L w w' ∧ ∀ x ∈ L, w0.heap.size ≤ x := by
  obtain ⟨a, c, rfl, ho⟩ := h
  have ho1 := ho.1
  rcases ho.2 with ⟨h1, h2⟩ | ⟨g, cap, cur, h1, h0, hg, hc, hm, hs, ht⟩
  · rw [h1]
    exact (over_nil w).mono fun _ _ ⟨e, hb⟩ => ⟨e, [], hb, by simp⟩
  · rw [u8s_len] at *
    simp only [Value.slice.injEq] at h1
    obtain ⟨rfl, -, rfl⟩ := h1
    rw [Nat.mul_one] at hs
    by_cases hq : (c : Int) ≤ bs.length + 12
    · exact (over_some g 0 bs.length c cur w hg (by omega) (by omega) (by omega)).mono fun _ _ ⟨e, hb⟩ => ⟨e, [g], hb, by simpa using h0⟩
    · exact (over_big g 0 bs.length c cur w hg (by omega) (by omega) (by omega) hq).mono fun _ _ ⟨e, hb⟩ => ⟨e, [g], hb, by simpa using h0⟩
theorem NewRow.sees {w0 w : World} {v : Value} {bs : List Int} (h : NewRow w0 w v bs) : Sees w v (u8s bs) := by
  obtain ⟨a, c, rfl, ho⟩ := h
  rcases ho.2 with ⟨h1, h2⟩ | ⟨g, cap, cur, h1, h0, hg, hc, hm, hs, ht⟩
  · rw [h1]
    exact .inl ⟨rfl, by rw [List.eq_nil_of_length_eq_zero h2]; rfl⟩
  · simp only [Value.slice.injEq] at h1
    obtain ⟨rfl, -, rfl⟩ := h1
    exact .inr ⟨⟨g, 0, none⟩, c, by rw [u8s_len], by rw [u8s_len]; omega, fun j u hj => ho.cells (g := g) rfl j u hj⟩
theorem NewRow.but {w0 w w' : World} {v : Value} {bs : List Int} (h : NewRow w0 w v bs) (hb : But [] w w') : NewRow w0 w' v bs := by
  obtain ⟨a, c, rfl, ho⟩ := h
  refine ⟨a, c, rfl, ho.1, ?_⟩
  rcases ho.2 with h2 | ⟨g, cap, cur, h1, h0, hg, rest⟩
  · exact .inl h2
  · exact .inr ⟨g, cap, cur, h1, h0, hb.heap hg (by simp), rest⟩
theorem readRow_len (S : Stk) (off n : Int) : (readRow S off n).length ≤ 512 := by
  unfold readRow
  split
  · rename_i h
    rw [rowB_len]
    unfold readE at h
    by_cases hE : checkE off n (readMay n) = 0
    · obtain ⟨hm, _, _⟩ := checkE_ok hE
      have := of_decide_eq_true hm
      omega
    · rw [if_pos hE] at h; exact absurd h hE
  · simp
theorem u8s_bytes (l : List Int) : IsBytes (u8s l) := fun u hu => by
  unfold u8s at hu
  obtain ⟨x, -, rfl⟩ := List.mem_map.1 hu
  exact ⟨x, rfl⟩
theorem sees_keep {L : List Nat} {w w' : World} {a : Option Addr} {c : Nat} {bs : List Int} (hs : Sees w (.slice a bs.length c) (u8s bs)) (hb : But L w w') (hf : ∀ ad, a = some ad → bs ≠ [] → ad.block ∉ L) : Sees w' (.slice a bs.length c) (u8s bs) := by
  by_cases h : bs = []
  · subst h
    rcases hs with ⟨h1, h2⟩ | ⟨ad, c', h1, h2, _⟩
    · exact .inl ⟨h1, h2⟩
    · exact .inr ⟨ad, c', h1, h2, fun j u hj => by simp [u8s] at hj⟩
  · exact hs.but hb (fun k hk => by
      cases a with
      | none => cases hk
      | some ad => cases hk; exact hf ad rfl h)
/-- A deed, as it lies in its box. -/
def deedC (d : Deed) : Array Value := #[.int .i64 d.kind, .int .i64 d.off, .int .i64 d.size, .int .u8 d.cell.k, .int .u64 d.cell.w, .int .i64 d.cell.r, .int .i64 d.cell.o, d.b]
end Go.Proofs.Ytmaeiifhmngllaa.M
