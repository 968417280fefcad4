/-
  light: are deeds few enough?
-/
import Derived.Test.YtmaeiifhmngllaaDo
import Derived.Test.YtmaeiifhmngllaaSame
namespace Go.Proofs.Ytmaeiifhmngllaa.M
open Go.RowKit
set_option linter.unusedVariables false
set_option linter.unusedSectionVars false
set_option linter.unusedSimpArgs false
def LightPost (l : List Deed) (w : World) (e : Ending) (w' : World) : Prop := ∃ b, e = .returned (.bool b) ∧ (b = true → l.length ≤ 60 ∧ ∀ (i : Nat) (d : Deed), l[i]? = some d → d.bs.length ≤ 600) ∧ w = w'
set_option maxRecDepth 100000 in
set_option maxHeartbeats 4000000 in
theorem light (v : Value) (l : List Deed) (w : World) (hs : SeesDeeds w v l) :
    Calls Try.prog 9 #[v] w (LightPost l w) := by
  obtain ⟨a, c, rfl, hD⟩ := hs
  have HD := Lib.hid hD
  clear hD
  go_enter Try.func9, Try.ntmps9
  go_wp2_with fail
  go_loop [3] (fun i => ∃ k : Nat, k ≤ l.length ∧ k ≤ 61 ∧ i = .int .i64 k ∧ ∀ (j : Nat) (d : Deed), j < k → l[j]? = some d → d.bs.length ≤ 600) (fun i => 61 - (intOf i).toNat)
  case atStart => exact ⟨0, by omega, by omega, rfl, fun j d hj => by omega⟩
  case round =>
    obtain ⟨k, hk, hk61, rfl, hall⟩ := hrel
    have HA := Lib.hid hall
    clear hall
    have hk0 : (0 : Int) ≤ k := by omega
    by_cases hlt : k < l.length
    · have hk1 : (k : Int) < l.length := by omega
      by_cases h61 : k < 61
      · have hk2 : (k : Int) < 61 := by omega
        obtain ⟨d, hd⟩ : ∃ d, l[k]? = some d := ⟨_, List.getElem?_eq_getElem hlt⟩
        obtain ⟨g, o, rfl, ⟨_, _, _, _, _, _, _, h7⟩, _, h4, _⟩ := HD.out k d hd
        obtain ⟨a3, c3, e3, _⟩ := sees_shape h4
        rw [u8s_len] at e3
        rw [e3] at h7
        have HDD := Lib.hid hd
        have hw1 : wrap64 ((k : Int) + 1) = (k : Int) + 1 := by rw [wrap64]; omega
        clear h4 e3 hd
        by_cases h6 : (600 : Int) < d.bs.length
        · go_wp2_with fail
          go_ret
          exact ⟨false, rfl, (fun h => by cases h), rfl⟩
        · have HN : Hid (∀ (j : Nat) (d' : Deed), j < k + 1 → l[j]? = some d' → d'.bs.length ≤ 600) := Lib.hid fun j d' hj hd' => by
            by_cases e : j = k
            · subst e
              rw [HDD.out] at hd'
              cases hd'
              omega
            · exact HA.out j d' (by omega) hd'
          go_wp2_with fail
          go_round
          case rel => exact ⟨k + 1, by omega, by omega, by go_num, HN.out⟩
          case measure => simp [intOf]; omega
      · obtain rfl : k = 61 := by omega
        have hd : decide ((l.length : Int) ≤ 60) = false := decide_eq_false (by omega)
        clear hlt
        go_wp2_with fail
        go_ret
        exact ⟨false, rfl, (fun h => by cases h), rfl⟩
    · obtain rfl : k = l.length := by omega
      go_wp2_with fail
      go_ret
      refine ⟨_, rfl, (fun h => ⟨?_, fun i d hd => HA.out i d (List.getElem?_eq_some_iff.1 hd).1 hd⟩), rfl⟩
      have h2 := of_decide_eq_true h
      omega
end Go.Proofs.Ytmaeiifhmngllaa.M
