/-
  'CodePuts' tells true: the walk.
-/
import Derived.Test.YtddeckkcfcodbaaGreatRefPut
import Derived.Test.YtddeckkcfcodbaaGreatAwake
import Derived.Test.YtddeckkcfcodbaaGreatInsIn
import Derived.Test.YtddeckkcfcodbaaGreatApart
namespace Go.Proofs.YtddeckkcfcodbaaGreat.M
open Go.RowKit Go.Shelf
set_option linter.unusedVariables false
set_option linter.unusedSectionVars false
set_option linter.unusedSimpArgs false
theorem sees_two (w : World) (u v : Value) : Sees (w.alloc (.cells #[u, v] 22)) (.slice (some ⟨w.heap.size, 0, none⟩) 2 2) [u, v] :=
  .inr ⟨⟨w.heap.size, 0, none⟩, 2, rfl, by simp, fun j x hj => by
    rw [add_at, Nat.zero_add, cl_of (al_at _ _)]
    simpa using hj⟩
theorem apart_two {u v : Value} (h : ∀ b, u.ownBlock = some b → v.ownBlock = some b → False) : ApartV [u, v] := fun i j x y b hx hy hbx hby => by
  match i, j, hx, hy with
  | 0, 0, _, _ => rfl
  | 1, 1, _, _ => rfl
  | 0, 1, hx, hy => simp at hx hy; subst hx; subst hy; exact (h b hbx hby).elim
  | 1, 0, hx, hy => simp at hx hy; subst hx; subst hy; exact (h b hby hbx).elim
set_option maxRecDepth 100000 in
set_option maxHeartbeats 4000000 in
theorem codePuts (v : Value) (l : List Ins) (w : World) (hs : CameI w v l) (hl : l.length ≤ 140737488355328) :
    Calls Tryz.prog 4 #[v] w fun e w' => e = .returned (.bool true) ∧ But [] w w' := by
  obtain ⟨hsee, hok, hnil⟩ := hs
  obtain ⟨a, c, rfl, _⟩ := id hsee
  have hl0 : (0 : Int) ≤ l.length := by omega
  by_cases h5 : l.length ≤ 5000
  · have h5' : ¬ (5000 : Int) < l.length := by omega
    have HSEE := Lib.hid hsee
    have HOK := Lib.hid hok
    have HL := Lib.hid (lentI a c l w hsee (hnil a _ c rfl) (by omega))
    clear hsee hok hnil
    go_enter Tryz.func4, Tryz.ntmps4
    go_wp2_with fail
    refine HL.out.mono ?_
    rintro e w1 ⟨inn, rfl, hlent, hown, hb1⟩
    obtain ⟨g, rfl⟩ := hlent.form
    have HB1 := Lib.hid hb1
    have HLE := Lib.hid hlent
    have hg : g < w1.heap.size := by
      obtain ⟨_, _, hr⟩ := hlent
      cases (show _ = _ from by assumption)
      exact hr.lt rfl
    clear hlent hown hb1
    go_wp2_with fail
    refine (put_c _ l _ HLE.out.sees HOK.out (by omega) (fun b hb _ => by cases hb; exact hg)).mono ?_
    rintro e w2 ⟨a2, n2, c2, rfl, hr2, hb2⟩
    obtain rfl : n2 = (putRow l).length := by have := hr2.1.len; rw [u8s_len] at this; exact this.symm
    have HR2 := Lib.hid hr2
    have HB2 := Lib.hid (HB1.out.trans hb2 (by simp))
    have HLE2 := Lib.hid (HLE.out.but hb2 (by simp))
    have hg2 : g < w2.heap.size := Nat.lt_of_lt_of_le hg hb2.size
    clear hr2 hb2
    go_wp2_with fail
    refine (put_c _ l _ HLE2.out.sees HOK.out (by omega) (fun b hb _ => by cases hb; exact hg2)).mono ?_
    rintro e w3 ⟨a3, n3, c3, rfl, hr3, hb3⟩
    obtain rfl : n3 = (putRow l).length := by have := hr3.1.len; rw [u8s_len] at this; exact this.symm
    have HAP : Hid (ApartV [.slice a2 (putRow l).length c2, .slice a3 (putRow l).length c3]) := Lib.hid (apart_two fun b h1 h2 => by
      have k1 := HR2.out.1.lt h1
      have k2 := hr3.2 b h2
      omega)
    have HLW : Hid (∀ b, (Value.slice a2 (putRow l).length c2).ownBlock = some b ∨ (Value.slice a3 (putRow l).length c3).ownBlock = some b → w.heap.size ≤ b) := Lib.hid fun b hb => by
      rcases hb with hb | hb
      · have := HR2.out.2 b hb; have := HB1.out.size; omega
      · have := hr3.2 b hb; have := HB2.out.size; omega
    have HQ2 := Lib.hid (HR2.out.1.but hb3 (by simp))
    have HQ3 := Lib.hid hr3.1
    have HB3 := Lib.hid (HB2.out.trans hb3 (by simp))
    have HLE3 := Lib.hid (HLE2.out.but hb3 (by simp))
    clear hr3 hb3 HR2
    go_wp2_with fail
    refine (refPut_c a c l _ (HSEE.out.but HB3.out (by simp)) HOK.out (by omega)).mono ?_
    rintro e w4 ⟨a4, n4, c4, rfl, hr4, hb4⟩
    obtain rfl : n4 = (putRow l).length := by have := hr4.1.len; rw [u8s_len] at this; exact this.symm
    have HQ4 := Lib.hid hr4.1
    have HB4 := Lib.hid (HB3.out.trans hb4 (by simp))
    have HQ24 := Lib.hid (HQ2.out.but hb4 (by simp))
    have HQ34 := Lib.hid (HQ3.out.but hb4 (by simp))
    have HLE4 := Lib.hid (HLE3.out.but hb4 (by simp))
    have hrl : (putRow l).length ≤ 1000000 := by
      have h := HQ4.out.len
      unfold putRow
      split
      · rw [enc_all]; omega
      · simp
    clear hr4 hb4
    obtain ⟨E, hE⟩ : ∃ E, E = putErr l := ⟨_, rfl⟩
    rw [← hE]
    go_wp2_with fail
    refine (same _ _ (putRow l) (putRow l) _ HQ24.out.sees HQ4.out.sees (by omega)).mono ?_
    rintro e w5 ⟨rfl, hb5⟩
    rw [show decide (putRow l = putRow l) = true by simp]
    have HB5 := Lib.hid (HB4.out.trans hb5 (by simp))
    have HQ25 := Lib.hid (HQ24.out.but hb5 (by simp))
    have HQ35 := Lib.hid (HQ34.out.but hb5 (by simp))
    have HLE5 := Lib.hid (HLE4.out.but hb5 (by simp))
    clear hb5
    go_wp2_with fail
    refine (keptI _ _ l _ HLE5.out (HSEE.out.but HB5.out (by simp)) (by omega)).mono ?_
    rintro e w6 ⟨rfl, hb6⟩
    have HB6 := Lib.hid (HB5.out.trans hb6 (by simp))
    have HQ26 := Lib.hid (HQ25.out.but hb6 (by simp))
    have HQ36 := Lib.hid (HQ35.out.but hb6 (by simp))
    clear hb6
    go_wp2_with fail
    refine (apartBytes _ [.slice a2 (putRow l).length c2, .slice a3 (putRow l).length c3] (fun _ => (putRow l).length) _ (sees_two _ _ _) HAP.out (fun k v hv => ⟨⟨u8s (putRow l), ?_, u8s_len _⟩, by omega⟩) (by simp)).mono ?_
    · have hb : But [] w6 (w6.alloc (.cells #[.slice a2 (putRow l).length c2, .slice a3 (putRow l).length c3] 22)) := (But.refl [] w6).alloc _
      match k, hv with
      | 0, hv => simp at hv; subst hv; exact HQ26.out.but hb (by simp)
      | 1, hv => simp at hv; subst hv; exact HQ36.out.but hb (by simp)
    rintro e w7 ⟨rfl, hb7⟩
    have HB7 : Hid (But [] w w7) := Lib.hid ((HB6.out.alloc _).trans hb7 (fun x hx => .inr (by
      obtain ⟨k, v, hv, hb⟩ := of_blks hx
      match k, hv with
      | 0, hv => simp at hv; subst hv; exact HLW.out x (.inl hb)
      | 1, hv => simp at hv; subst hv; exact HLW.out x (.inr hb))))
    clear hb7
    go_wp2_with fail
    refine (awake _).mono ?_
    rintro e w8 ⟨rfl, hb8⟩
    have HB8 := Lib.hid (HB7.out.trans hb8 (by simp))
    clear hb8
    go_wp2_with fail
    go_ret
    exact ⟨by simp, HB8.out⟩
  · have h5' : (5000 : Int) < l.length := by omega
    clear hsee hok hnil h5
    go_enter Tryz.func4, Tryz.ntmps4
    go_wp2_with fail
    refine (awake _).mono ?_
    rintro e w1 ⟨rfl, hb1⟩
    have HB1 := Lib.hid hb1
    clear hb1
    go_wp2_with fail
    go_ret
    exact ⟨rfl, HB1.out⟩
theorem codePuts_walk (w : World) (v : Value) (l : List Ins) (hs : CameI w v l) (hl : l.length ≤ 140737488355328) : Calls Tryz.prog 4 #[v] w fun e w' => e = .returned (.bool true) ∧ Below w.heap.size w w' :=
  (codePuts v l w hs hl).mono fun _ _ ⟨he, hb⟩ => ⟨he, hb.below (Nat.le_refl _) (by simp)⟩
end Go.Proofs.YtddeckkcfcodbaaGreat.M
