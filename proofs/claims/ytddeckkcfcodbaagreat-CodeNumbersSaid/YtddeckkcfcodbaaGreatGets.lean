/-
  'CodeGets' tells true: the walk.
-/
import Derived.Test.YtddeckkcfcodbaaGreatCame
import Derived.Test.YtddeckkcfcodbaaGreatRefGet
import Derived.Test.YtddeckkcfcodbaaGreatApartI
namespace Go.Proofs.YtddeckkcfcodbaaGreat.M
open Go.RowKit Go.Shelf
set_option linter.unusedVariables false
set_option linter.unusedSectionVars false
set_option linter.unusedSimpArgs false
theorem u8s_bytes (bs : List Int) : IsBytes (u8s bs) := fun u hu => by
  simp only [u8s, List.mem_map] at hu
  obtain ⟨n, _, rfl⟩ := hu
  exact ⟨n, rfl⟩
theorem sees_twoI (w : World) (u v : Value) : Sees (w.alloc (.cells #[u, v] 28)) (.slice (some ⟨w.heap.size, 0, none⟩) 2 2) [u, v] :=
  .inr ⟨⟨w.heap.size, 0, none⟩, 2, rfl, by simp, fun j x hj => by
    rw [add_at, Nat.zero_add, cl_of (al_at _ _)]
    simpa using hj⟩
theorem apart_twoV {u v : Value} (h : ∀ b, u.ownBlock = some b → v.ownBlock = some b → False) : ApartV [u, v] := fun i j x y b hx hy hbx hby => by
  match i, j, hx, hy with
  | 0, 0, _, _ => rfl
  | 1, 1, _, _ => rfl
  | 0, 1, hx, hy => simp at hx hy; subst hx; subst hy; exact (h b hbx hby).elim
  | 1, 0, hx, hy => simp at hx hy; subst hx; subst hy; exact (h b hby hbx).elim
set_option maxRecDepth 100000 in
set_option maxHeartbeats 4000000 in
theorem codeGets (vb : Value) (bs : List Int) (w : World) (hB : Sees w vb (u8s bs) ∧ ByteL bs) (hb : bs.length ≤ 140737488351232) :
    Calls Tryz.prog 10 #[vb] w fun e w' => e = .returned (.bool true) ∧ But [] w w' := by
  obtain ⟨hbs, hby⟩ := hB
  obtain ⟨ba, bc, rfl, hbd⟩ := seesD_sees hbs
  have hb0 : (0 : Int) ≤ bs.length := by omega
  by_cases h4 : bs.length ≤ 40000
  · have h4' : ¬ (40000 : Int) < bs.length := by omega
    have HBS := Lib.hid hbs
    have HBD := Lib.hid hbd
    have HBY := Lib.hid hby
    have HL := Lib.hid (lent _ _ w hbs (u8s_bytes bs) (by rw [u8s_len]; omega))
    clear hbs hbd hby
    go_enter Tryz.func10, Tryz.ntmps10
    go_wp2_with fail
    refine HL.out.mono ?_
    rintro e w1 ⟨inn, rfl, hlent, hown, hb1⟩
    obtain ⟨ia, ic, rfl, hid⟩ := seesD_sees hlent.sees
    have HB1 := Lib.hid hb1
    have HLE := Lib.hid hlent
    have HIN : Hid (∀ L w', But L w1 w' → (∀ b, (Value.slice ia bs.length ic).ownBlock = some b → b ∉ L) → SeesD w' ia ic bs) := Lib.hid fun L w' hb hn => hid.but hb (fun ad had => hn _ (by rw [had]; rfl))
    clear hlent hown hb1 hid
    go_wp2_with fail
    refine (get_c ia ic bs _ (HIN.out [] _ (But.refl _ _) (by simp)) HBY.out (by omega)).mono ?_
    rintro e w2 ⟨a2, n2, c2, rfl, hr2, hb2⟩
    obtain ⟨c2', a2', e2⟩ := hr2.form
    simp only [Value.slice.injEq] at e2
    obtain ⟨rfl, rfl, rfl⟩ := e2
    have HR2 := Lib.hid hr2
    have HX2 := Lib.hid hb2
    have HB2 := Lib.hid (HB1.out.trans hb2 (by simp))
    clear hr2 hb2
    go_wp2_with fail
    refine (get_c ia ic bs _ (HIN.out [] _ HX2.out (by simp)) HBY.out (by omega)).mono ?_
    rintro e w3 ⟨a3, n3, c3, rfl, hr3, hb3⟩
    obtain ⟨c3', a3', e3⟩ := hr3.form
    simp only [Value.slice.injEq] at e3
    obtain ⟨rfl, rfl, rfl⟩ := e3
    have HAP : Hid (ApartV [.slice a2 (getRow bs).length c2, .slice a3 (getRow bs).length c3]) := Lib.hid (apart_twoV fun b h1 h2 => by
      have k1 := HR2.out.lt h1
      have k2 := (hr3.tag h2).1
      omega)
    have HLW : Hid (∀ b, (Value.slice a2 (getRow bs).length c2).ownBlock = some b ∨ (Value.slice a3 (getRow bs).length c3).ownBlock = some b → w.heap.size ≤ b) := Lib.hid fun b hb => by
      rcases hb with hb | hb
      · have := (HR2.out.tag hb).1; have := HB1.out.size; omega
      · have := (hr3.tag hb).1; have := HB2.out.size; omega
    have HQ2 := Lib.hid (HR2.out.but hb3 (by simp))
    have HQ3 := Lib.hid hr3
    have HB3 := Lib.hid (HB2.out.trans hb3 (by simp))
    have HLE3 := Lib.hid (HLE.out.but (HX2.out.trans hb3 (by simp)) (by simp))
    clear hr3 hb3 HR2
    go_wp2_with fail
    refine (refGet_c ba bc bs _ (HBD.out.but HB3.out (by simp)) HBY.out (by omega)).mono ?_
    rintro e w4 ⟨a4, n4, c4, rfl, hr4, hb4⟩
    obtain ⟨c4', a4', e4⟩ := hr4.form
    simp only [Value.slice.injEq] at e4
    obtain ⟨rfl, rfl, rfl⟩ := e4
    have HQ4 := Lib.hid hr4.sees
    have HB4 := Lib.hid (HB3.out.trans hb4 (by simp))
    have HQ24 := Lib.hid (HQ2.out.but hb4 (by simp))
    have HQ34 := Lib.hid (HQ3.out.but hb4 (by simp))
    have HLE4 := Lib.hid (HLE3.out.but hb4 (by simp))
    have hrl : (getRow bs).length ≤ 1000000 := by
      unfold getRow
      split
      · rw [decL_len]; omega
      · simp
    clear hr4 hb4
    obtain ⟨E, hE⟩ : ∃ E, E = getErr bs.length := ⟨_, rfl⟩
    rw [← hE]
    clear hE
    go_wp2_with fail
    refine (sameI _ _ (getRow bs) _ HQ24.out.sees HQ4.out (by omega)).mono ?_
    rintro e w5 ⟨rfl, hb5⟩
    have HB5 := Lib.hid (HB4.out.trans hb5 (by simp))
    have HQ25 := Lib.hid (HQ24.out.but hb5 (by simp))
    have HQ35 := Lib.hid (HQ34.out.but hb5 (by simp))
    have HLE5 := Lib.hid (HLE4.out.but hb5 (by simp))
    clear hb5
    go_wp2_with fail
    refine (kept _ _ (u8s bs) _ HLE5.out (HBS.out.but HB5.out (by simp)) (u8s_bytes bs) (by rw [u8s_len]; omega)).mono ?_
    rintro e w6 ⟨rfl, hb6⟩
    have HB6 := Lib.hid (HB5.out.trans hb6 (by simp))
    have HQ26 := Lib.hid ((HQ25.out.but hb6 (by simp)).own)
    have HQ36 := Lib.hid ((HQ35.out.but hb6 (by simp)).own)
    clear hb6
    go_wp2_with fail
    refine (apartI _ [.slice a2 (getRow bs).length c2, .slice a3 (getRow bs).length c3] (fun _ => (getRow bs).length) _ (sees_twoI _ _ _) HAP.out (fun k v hv => ⟨⟨getRow bs, ?_, rfl⟩, by omega⟩) (by simp)).mono ?_
    · have hb : But [] w6 (w6.alloc (.cells #[.slice a2 (getRow bs).length c2, .slice a3 (getRow bs).length c3] 28)) := (But.refl [] w6).alloc _
      match k, hv with
      | 0, hv => simp at hv; subst hv; exact HQ26.out.but hb (by simp)
      | 1, hv => simp at hv; subst hv; exact HQ36.out.but hb (by simp)
    rintro e w7 ⟨rfl, hb7⟩
    have HB7 : Hid (But [] w w7) := Lib.hid ((HB6.out.alloc _).trans hb7 (fun x hx => .inr (by
      obtain ⟨k, v, hv, hb⟩ := of_blks hx
      match k, hv with
      | 0, hv => simp at hv; subst hv; exact HLW.out x (.inl hb)
      | 1, hv => simp at hv; subst hv; exact HLW.out x (.inr hb))))
    clear hb7
    go_wp2_with fail
    refine (awake _).mono ?_
    rintro e w8 ⟨rfl, hb8⟩
    have HB8 := Lib.hid (HB7.out.trans hb8 (by simp))
    clear hb8
    go_wp2_with fail
    go_ret
    exact ⟨by simp, HB8.out⟩
  · have h4' : (40000 : Int) < bs.length := by omega
    clear hbs hbd hby h4
    go_enter Tryz.func10, Tryz.ntmps10
    go_wp2_with fail
    refine (awake _).mono ?_
    rintro e w1 ⟨rfl, hb1⟩
    have HB1 := Lib.hid hb1
    clear hb1
    go_wp2_with fail
    go_ret
    exact ⟨rfl, HB1.out⟩
theorem codeGets_walk (w : World) (vb : Value) (bs : List Int) (hB : Sees w vb (u8s bs) ∧ ByteL bs) (hb : bs.length ≤ 140737488351232) :
    Calls Tryz.prog 10 #[vb] w fun e w' => e = .returned (.bool true) ∧ Below w.heap.size w w' :=
  (codeGets vb bs w hB hb).mono fun _ _ ⟨he, hb⟩ => ⟨he, hb.below (Nat.le_refl _) (by simp)⟩
end Go.Proofs.YtddeckkcfcodbaaGreat.M
