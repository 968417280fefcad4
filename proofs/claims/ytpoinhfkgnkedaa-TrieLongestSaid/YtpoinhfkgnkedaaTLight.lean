/-
  lru: light: are deeds few enough?
-/
import Derived.Test.YtpoinhfkgnkedaaTDo
import Derived.Test.YtpoinhfkgnkedaaSame
namespace Go.Proofs.Ytpoinhfkgnkedaa.M
open Go.RowKit
set_option linter.unusedVariables false
set_option linter.unusedSectionVars false
set_option linter.unusedSimpArgs false
def Few (d : DeedA) : Prop := d.ks.length ≤ 80 ∧ d.bs.length ≤ 80
def LightPost (k key val ent : Int) (l : List DeedA) (w : World) (e : Ending) (w' : World) : Prop := ∃ b, e = .returned (.bool b) ∧ (b = true → (ent ≤ 40 ∧ val ≤ 80 ∧ key ≤ 80) ∧ l.length ≤ 60 ∧ ∀ (i : Nat) (d : DeedA), l[i]? = some d → Few d) ∧ w' = w.alloc (.cells #[.int .u8 k, .int .i64 key, .int .i64 val, .int .i64 ent] 24)
theorem light_nums {k n : Nat} (h : k < n) (hn : n ≤ 60) : (0 : Int) ≤ k ∧ (k : Int) < n ∧ wrap64 ((k : Int) + 1) = (k : Int) + 1 := by
  refine ⟨by omega, by omega, ?_⟩
  rw [wrap64]; omega
set_option maxRecDepth 100000 in
set_option maxHeartbeats 4000000 in
theorem light (k key val ent : Int) (v : Value) (l : List DeedA) (w : World) (hs : SeesDeeds w v l) :
    Calls Try.prog 8 #[.agg #[.int .u8 k, .int .i64 key, .int .i64 val, .int .i64 ent], v] w (LightPost k key val ent l w) := by
  obtain ⟨a, c, rfl, hD⟩ := hs
  obtain ⟨W0, hW0⟩ : ∃ W0, W0 = w.alloc (.cells #[.int .u8 k, .int .i64 key, .int .i64 val, .int .i64 ent] 24) := ⟨_, rfl⟩
  have HD : Hid (∀ (i : Nat) (d : DeedA), l[i]? = some d → DeedAt W0 a i d) := Lib.hid fun i d h => (hD i d h).keep (by rw [hW0]; exact (But.refl [] w).alloc _)
  have hd0 : W0.heap[w.heap.size]? = some (.cells #[.int .u8 k, .int .i64 key, .int .i64 val, .int .i64 ent] 24) := by rw [hW0]; exact al_at w _
  have c1 : W0.cell? ⟨w.heap.size, 1, none⟩ = some (.int .i64 key) := cl_of hd0 1
  have c2 : W0.cell? ⟨w.heap.size, 2, none⟩ = some (.int .i64 val) := cl_of hd0 2
  have c3 : W0.cell? ⟨w.heap.size, 3, none⟩ = some (.int .i64 ent) := cl_of hd0 3
  have HW := Lib.hid hW0
  clear hD hW0 hd0
  go_enter Try.func8, Try.ntmps8
  go_upto_region 1 with fail
  rw [← HW.out]
  by_cases h3 : 40 < ent
  · have k3 : decide (40 < ent) = true := decide_eq_true h3
    go_wp2_with fail
    go_ret
    exact ⟨false, rfl, (fun h => by cases h), HW.out⟩
  have k3 : decide (40 < ent) = false := decide_eq_false h3
  by_cases h2 : 80 < val
  · have k2 : decide (80 < val) = true := decide_eq_true h2
    go_wp2_with fail
    go_ret
    exact ⟨false, rfl, (fun h => by cases h), HW.out⟩
  have k2 : decide (80 < val) = false := decide_eq_false h2
  by_cases h1 : 80 < key
  · have k1 : decide (80 < key) = true := decide_eq_true h1
    go_wp2_with fail
    go_ret
    exact ⟨false, rfl, (fun h => by cases h), HW.out⟩
  have k1 : decide (80 < key) = false := decide_eq_false h1
  by_cases h4 : (60 : Int) < l.length
  · have k4 : decide ((60 : Int) < l.length) = true := decide_eq_true h4
    go_wp2_with fail
    go_ret
    exact ⟨false, rfl, (fun h => by cases h), HW.out⟩
  have k4 : decide ((60 : Int) < l.length) = false := decide_eq_false h4
  have HL : Hid (l.length ≤ 60) := Lib.hid (by omega)
  have HH : Hid (ent ≤ 40 ∧ val ≤ 80 ∧ key ≤ 80) := Lib.hid (by omega)
  go_wp2_with fail
  clear h1 h2 h3 k1 k2 k3 c1 c2 c3 h4 k4
  go_loop [5] (fun i => ∃ k : Nat, k ≤ l.length ∧ i = .int .i64 k ∧ ∀ (j : Nat) (d : DeedA), j < k → l[j]? = some d → Few d) (fun i => l.length - (intOf i).toNat)
  case atStart => exact ⟨0, Nat.zero_le _, rfl, fun j d hj => absurd hj (Nat.not_lt_zero _)⟩
  case round =>
    obtain ⟨k, hk, rfl, hall⟩ := hrel
    have HA := Lib.hid hall
    clear hall
    by_cases hlt : k < l.length
    · obtain ⟨hk0, hk1, hw1⟩ := light_nums hlt HL.out
      obtain ⟨d, hd⟩ : ∃ d, l[k]? = some d := ⟨_, List.getElem?_eq_getElem hlt⟩
      obtain ⟨g, o, rfl, hc, hok⟩ := HD.out k d hd
      obtain ⟨a3, c4, e3, _⟩ := sees_shape hok.key
      obtain ⟨a5, c5, e5, _⟩ := sees_shape hok.b
      rw [u8s_len] at e3 e5
      have d1 := hc 1 _ rfl
      have d2 := hc 2 _ rfl
      rw [e3] at d1
      rw [e5] at d2
      have HDD := Lib.hid hd
      have HLT := Lib.hid hlt
      clear hc hok e3 e5 hd hlt
      by_cases q1 : (80 : Int) < d.ks.length
      · have r1 : decide ((80 : Int) < d.ks.length) = true := decide_eq_true q1
        go_wp2_with fail
        go_ret
        exact ⟨false, rfl, (fun h => by cases h), HW.out⟩
      have r1 : decide ((80 : Int) < d.ks.length) = false := decide_eq_false q1
      by_cases q2 : (80 : Int) < d.bs.length
      · have r2 : decide ((80 : Int) < d.bs.length) = true := decide_eq_true q2
        go_wp2_with fail
        go_ret
        exact ⟨false, rfl, (fun h => by cases h), HW.out⟩
      have r2 : decide ((80 : Int) < d.bs.length) = false := decide_eq_false q2
      have HN : Hid (∀ (j : Nat) (d' : DeedA), j < k + 1 → l[j]? = some d' → Few d') := Lib.hid fun j d' hj hd' => by
        by_cases e : j = k
        · subst e
          rw [HDD.out] at hd'
          cases hd'
          exact ⟨by omega, by omega⟩
        · exact HA.out j d' (by omega) hd'
      go_wp2_with fail
      go_round
      case rel => exact ⟨k + 1, HLT.out, by go_num, HN.out⟩
      case measure => exact (round_num HLT.out (Nat.le_trans HL.out (by decide))).2
    · obtain rfl : k = l.length := num_eq hk hlt
      go_wp2_with fail
      go_ret
      exact ⟨true, rfl, (fun _ => ⟨HH.out, HL.out, fun i d hd => HA.out i d (List.getElem?_eq_some_iff.1 hd).1 hd⟩), HW.out⟩
end Go.Proofs.Ytpoinhfkgnkedaa.M
