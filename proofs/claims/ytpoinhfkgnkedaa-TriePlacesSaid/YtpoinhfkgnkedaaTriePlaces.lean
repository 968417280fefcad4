/-
  TriePlaces: the walk.
-/
import Derived.Test.YtpoinhfkgnkedaaTrPlP
import Derived.Test.YtpoinhfkgnkedaaTOpen8
namespace Go.Proofs.Ytpoinhfkgnkedaa.M
open Go.RowKit Go.Shelf
set_option linter.unusedVariables false
set_option linter.unusedSectionVars false
set_option linter.unusedSimpArgs false
theorem SeesDeeds.new {w w' : World} {v : Value} {l : List DeedA} (h : SeesDeeds w v l) (hb : But [] w w') : SeesDeeds w' v l := by
  obtain ⟨a, c, h1, h2⟩ := h
  exact ⟨a, c, h1, fun i d hi => (h2 i d hi).keep hb⟩
/-- What stands while deeds are done: a key's place and value; the copy of the key. -/
def PlS (wn wr : World) (P K V N : Nat) (π : Path) (p : Nat) (vs k' : List Int) (ov : Value) : Prop := ∃ S E rows, TO wn wr S P K V N E rows ∧ E π = some p ∧ rows[p]? = some vs ∧ Sees wr ov (u8s k') ∧ ∀ b, ov.ownBlock = some b → ¬ S b
section
variable {wn wr : World} {P K V N : Nat} {π : Path} {p : Nat} {vs k' : List Int} {ov : Value}
theorem PlS.new {w' : World} (h : PlS wn wr P K V N π p vs k' ov) (hb : But [] wr w') : PlS wn w' P K V N π p vs k' ov := by
  obtain ⟨S, E, rows, h1, h2, h3, h4, h5⟩ := h
  exact ⟨S, E, rows, h1.new hb, h2, h3, h4.but hb (by simp), h5⟩
theorem PlS.but (h : PlS wn wr P K V N π p vs k' ov) : But [] wn wr := by
  obtain ⟨S, E, rows, h1, _⟩ := h
  exact h1.but
theorem PlS.num (h : PlS wn wr P K V N π p vs k' ov) : (5 ≤ K ∧ K ≤ 36) ∧ (1 ≤ V ∧ V ≤ 1024) ∧ (1 ≤ N ∧ N ≤ 1024) := by
  obtain ⟨S, E, rows, h1, _⟩ := h
  exact h1.num
theorem PlS.turn {w' : World} {S S' : Nat → Prop} {E' : EMap} {rows' : List (List Int)} (h4 : Sees wr ov (u8s k')) (h5 : ∀ b, ov.ownBlock = some b → ¬ S b) (hl : 0 < k'.length) (h1 : TO wn w' S' P K V N E' rows') (ht : TurnsO S S' wr w') (h2 : E' π = some p) (h3 : rows'[p]? = some vs) : PlS wn w' P K V N π p vs k' ov := by
  obtain ⟨ht1, L, hL, hb⟩ := ht
  have hlow := h4.low (by rw [u8s_len]; exact hl)
  refine ⟨S', E', rows', h1, h2, h3, h4.but hb (fun k hk hm => ?_), fun b hb' hS => h5 b hb' (ht1 b (hlow b hb') hS)⟩
  rcases hL k hm with h | h
  · exact h5 k hk h
  · have := hlow k hk; omega
theorem PlS.del (h : PlS wn wr P K V N π p vs k' ov) (hl : 0 < k'.length) (a : Option Addr) (c : Nat) {ks : List Int} (hs : Sees wr (.slice a ks.length c) (u8s ks)) (hk : ByteL ks) (hne : ¬ KeyBad K ks → kbits ks ≠ π) :
    Calls Try.prog 11 #[.pointer (some ⟨P, 0, none⟩), .slice a ks.length c] wr fun e w' => ∃ v, e = .returned (.int .i64 v) ∧ PlS wn w' P K V N π p vs k' ov := by
  obtain ⟨S, E, rows, h1, h2, h3, h4, h5⟩ := h
  refine (h1.delete a c hs hk).mono ?_
  rintro e w' ⟨rfl, S', hT, ht⟩
  exact ⟨_, rfl, PlS.turn h4 h5 hl hT ht (by rw [delT_keep hne]; exact h2) h3⟩
theorem PlS.upd (h : PlS wn wr P K V N π p vs k' ov) (hl : 0 < k'.length) (a : Option Addr) (c : Nat) {ks : List Int} (hs : Sees wr (.slice a ks.length c) (u8s ks)) (hk : ByteL ks) (va : Option Addr) (vc : Nat) {us : List Int} (hsv : Sees wr (.slice va us.length vc) (u8s us)) (hv : ByteL us) (fl : Int)
    (hka : 0 < ks.length → ∀ b, (Value.slice a ks.length c).ownBlock = some b → b < wn.heap.size) (hva : 0 < us.length → ∀ b, (Value.slice va us.length vc).ownBlock = some b → b < wn.heap.size) (hne : ¬ KeyBad K ks → kbits ks ≠ π) :
    Calls Try.prog 12 #[.pointer (some ⟨P, 0, none⟩), .slice a ks.length c, .slice va us.length vc, .int .u64 fl] wr fun e w' => ∃ v, e = .returned (.int .i64 v) ∧ PlS wn w' P K V N π p vs k' ov := by
  obtain ⟨S, E, rows, h1, h2, h3, h4, h5⟩ := h
  refine (h1.update a c hs hk va vc hsv hv fl (fun h b hb hS => by have := hka h b hb; have := (h1.low b hS).1; omega) (fun h b hb hS => by have := hva h b hb; have := (h1.low b hS).1; omega)).mono ?_
  rintro e w' ⟨rfl, S', hT, ht⟩
  obtain ⟨g1, g2⟩ := updT_keep (V := V) (vs' := us) (fl := fl) (N := N) h2 h3 (fun ρ hρ => h1.pinj hρ h2) hne
  exact ⟨_, rfl, PlS.turn h4 h5 hl hT ht g1 g2⟩
theorem low_in {w : World} {a : Option Addr} {c : Nat} {ks : List Int} (hs : Sees w (.slice a ks.length c) (u8s ks)) {w' : World} (hb : w.heap.size ≤ w'.heap.size) : 0 < ks.length → ∀ b, (Value.slice a ks.length c).ownBlock = some b → b < w'.heap.size := fun h0 b hb' => by
  have := hs.low (by rw [u8s_len]; exact h0) b hb'
  omega
end
set_option maxRecDepth 100000 in
set_option maxHeartbeats 4000000 in
theorem triePlaces (k key val ent t : Int) (ka va oa : Option Addr) (kc vc oc : Nat) (ks vs : List Int) (l : List DeedA) (w : World) (hk : (Lit.int .u8 k).wf = true) (ht : 0 ≤ t ∧ t ≤ 255)
    (hks : Sees w (.slice ka ks.length kc) (u8s ks)) (hkb : ByteL ks) (hvs : Sees w (.slice va vs.length vc) (u8s vs)) (hvb : ByteL vs) (hd : SeesDeeds w (.slice oa l.length oc) l) :
    Calls Try.prog 4 #[.agg #[.int .u8 k, .int .i64 key, .int .i64 val, .int .i64 ent], .slice ka ks.length kc, .slice va vs.length vc, .slice oa l.length oc, .int .u8 t] w fun e w' => e = .returned (.bool true) ∧ But [] w w' := by
  have HKS := Lib.hid hks
  have HKB := Lib.hid hkb
  have HVS := Lib.hid hvs
  have HVB := Lib.hid hvb
  have HD := Lib.hid hd
  have HT := Lib.hid ht
  clear hks hkb hvs hvb hd ht
  go_enter Try.func4, Try.ntmps4
  go_wp2_with fail
  refine (awake _).mono ?_
  rintro e w1 ⟨rfl, hb1⟩
  have HS : Hid (w1.heap[w.heap.size]? = some (.cells #[.int .u8 k, .int .i64 key, .int .i64 val, .int .i64 ent] 24)) := Lib.hid (hb1.heap (al_at _ _) (by simp))
  have HB1 : Hid (But [] w w1) := Lib.hid (((But.refl [] w).alloc _).trans hb1 (by simp))
  clear hb1
  have s0 : w1.cell? ⟨w.heap.size, 0, none⟩ = some (.int .u8 k) := cl_of HS.out 0
  have s1 : w1.cell? ⟨w.heap.size, 1, none⟩ = some (.int .i64 key) := cl_of HS.out 1
  have s2 : w1.cell? ⟨w.heap.size, 2, none⟩ = some (.int .i64 val) := cl_of HS.out 2
  have s3 : w1.cell? ⟨w.heap.size, 3, none⟩ = some (.int .i64 ent) := cl_of HS.out 3
  go_wp2_with fail
  refine (light k key val ent (.slice oa l.length oc) l _ (HD.out.new HB1.out)).mono ?_
  rintro e w2 ⟨b, rfl, hli, hw2⟩
  have HB2 : Hid (But [] w1 w2) := Lib.hid (by rw [hw2]; exact (But.refl [] w1).alloc _)
  have HB02 : Hid (But [] w w2) := Lib.hid (HB1.out.trans HB2.out (by simp))
  clear hw2 s0 s1 s2 s3
  have hs2 := HB2.out.heap HS.out (by simp)
  have s0 : w2.cell? ⟨w.heap.size, 0, none⟩ = some (.int .u8 k) := cl_of hs2 0
  have s1 : w2.cell? ⟨w.heap.size, 1, none⟩ = some (.int .i64 key) := cl_of hs2 1
  have s2 : w2.cell? ⟨w.heap.size, 2, none⟩ = some (.int .i64 val) := cl_of hs2 2
  have s3 : w2.cell? ⟨w.heap.size, 3, none⟩ = some (.int .i64 ent) := cl_of hs2 3
  clear hs2
  cases b
  · go_wp2_with fail
    go_ret
    exact ⟨rfl, HB02.out⟩
  have HLI := Lib.hid (hli rfl)
  clear hli
  by_cases q1 : (80 : Int) < ks.length
  · have r1 : decide ((80 : Int) < ks.length) = true := decide_eq_true q1
    go_wp2_with fail
    go_ret
    exact ⟨rfl, HB02.out⟩
  have r1 : decide ((80 : Int) < ks.length) = false := decide_eq_false q1
  by_cases q2 : (80 : Int) < vs.length
  · have r2 : decide ((80 : Int) < vs.length) = true := decide_eq_true q2
    go_wp2_with fail
    go_ret
    exact ⟨rfl, HB02.out⟩
  have r2 : decide ((80 : Int) < vs.length) = false := decide_eq_false q2
  have HL60 : Hid (l.length ≤ 60) := Lib.hid HLI.out.2.1
  have HK80 : Hid (ks.length ≤ 80) := Lib.hid (by omega)
  go_wp2_with fail
  clear q1 q2 r1 r2
  rcases newTwo k key val ent w2 hk with ⟨E, hE1, hE2, hN⟩ | ⟨K, V, N, rfl, rfl, rfl, hN⟩
  · refine hN.mono ?_
    rintro e w3 ⟨rfl, hb3⟩
    have HB3 := Lib.hid (HB02.out.trans hb3 (by simp))
    clear hb3 hN
    go_wp2_with fail
    go_ret
    exact ⟨rfl, HB3.out⟩
  refine hN.mono ?_
  rintro e w3 ⟨P, S3, rfl, hT3⟩
  have HT3 := Lib.hid hT3
  have hB3 := HB02.out.trans hT3.but (by simp)
  have HB3 := Lib.hid hB3
  have HUP := Lib.hid (hT3.update ka kc (HKS.out.but hB3 (by simp)) HKB.out va vc (HVS.out.but hB3 (by simp)) HVB.out 1 (fun h b hb hS => by have := low_in HKS.out HB02.out.size h b hb; have := (hT3.low b hS).1; omega) (fun h b hb hS => by have := low_in HVS.out HB02.out.size h b hb; have := (hT3.low b hS).1; omega))
  clear hT3 hN hB3 s0 s1 s2 s3 hk
  go_wp2_with fail
  refine HUP.out.mono ?_
  rintro e w4 ⟨rfl, S4, hT4, ht4⟩
  rcases upd_first (K := K) (V := V) (rows := List.replicate N (List.replicate V 0)) (ks := ks) (vs := vs) (HT3.out.num.2.2.1) 1 (by omega) with ⟨hbad, e1⟩ | ⟨hg1, hg2, e1⟩
  · rw [e1] at hT4 ⊢
    dsimp only at hT4 ⊢
    have HKEYS := Lib.hid hT4.keys
    have HB4 : Hid (But [] w w4) := Lib.hid (HB02.out.trans hT4.but (by simp))
    clear hbad e1 hT4 ht4 HUP
    go_wp2_with fail
    refine HKEYS.out.mono ?_
    rintro e w5 ⟨a, c, L, rfl, hK, -, ho⟩
    have hL0 : L = [] := by
      cases L with
      | nil => rfl
      | cons x L => obtain ⟨_, _, _, p, hp⟩ := hK.ok x List.mem_cons_self; cases hp
    have HB5 : Hid (But [] w w5) := Lib.hid (by obtain ⟨ps, _, _, _, _, _, _, h7⟩ := ho; exact HB4.out.trans h7 (by simp))
    subst hL0
    clear hK ho
    go_wp2_with fail
    go_ret
    exact ⟨rfl, HB5.out⟩
  rw [e1] at hT4 ⊢
  dsimp only at hT4 ⊢
  obtain ⟨hok, hkl⟩ := keyOk_of hT4.num.1 HKB.out hg1
  have hB4 := HB02.out.trans hT4.but (by simp)
  have hlk := hT4.lookup ka kc (HKS.out.but hB4 (by simp)) HKB.out
  rw [lookT_at hg1 (putE_at _ _ _)] at hlk
  have HLK := Lib.hid hlk
  have HT4 := Lib.hid hT4
  have HG1 := Lib.hid hg1
  have HOK := Lib.hid hok
  have HKL := Lib.hid hkl
  have HVL := Lib.hid hg2
  clear hlk hT4 ht4 hg1 hok hkl hg2 e1 hB4 HUP
  go_wp2_with fail
  refine HLK.out.mono ?_
  rintro e w5 ⟨rfl, hb5⟩
  have HT5 := Lib.hid (HT4.out.new hb5)
  clear hb5 HLK
  have HB5 : Hid (But [] w w5) := Lib.hid (HB02.out.trans HT5.out.but (by simp))
  go_wp2_with fail
  refine (copyBytes (.slice ka ks.length kc) (u8s ks) _ (HKS.out.but HB5.out (by simp)) (u8s_one ks) (by rw [u8s_len]; have := HK80.out; omega)).mono ?_
  rintro e w6 ⟨ov, rfl, hown, hlo, hb6⟩
  have hq := hown.que
  have hk5 : 5 ≤ ks.length := by rw [HKL.out]; exact HT5.out.num.1.1
  obtain ⟨oa6, oc6, rfl⟩ := hq.form
  rw [u8s_len] at hq hlo ⊢
  obtain ⟨g, o, rfl⟩ := hq.addr (by omega)
  have hgl := hlo g rfl
  have HGL := Lib.hid hgl
  have HT6 := Lib.hid (HT5.out.new hb6)
  have HB6 : Hid (But [] w w6) := Lib.hid (HB5.out.trans hb6 (by simp))
  have HNS : Hid (∀ b, (Value.slice (some ⟨g, o, none⟩) ks.length oc6).ownBlock = some b → ¬ S4 b) := Lib.hid fun b hb hS => by
    cases hb
    have h1 := HGL.out
    have h2 := (HT5.out.low g hS).2
    omega
  have HQ := Lib.hid hq
  have HK5 := Lib.hid hk5
  have hrow0 : ((List.replicate N (List.replicate V 0)).set 0 vs)[0]? = some vs := by
    rw [List.getElem?_set_self (by rw [List.length_replicate]; exact HT5.out.num.2.2.1)]
  have HROW0 := Lib.hid hrow0
  have HPL0 : Hid (PlS w2 w6 P K V N (kbits ks) 0 vs ks (.slice (some ⟨g, o, none⟩) ks.length oc6)) := Lib.hid ⟨S4, _, _, HT6.out, putE_at _ _ _, hrow0, by simpa [u8s_len] using hq.sees, HNS.out⟩
  have HBITS := Lib.hid (by
    obtain ⟨ad, rfl⟩ := sees_some HKS.out (by omega)
    exact bitsl_b ad kc ks w6 (HKS.out.but HB6.out (by simp)) HKB.out (by omega) : Calls Try.prog 16 #[.slice ka ks.length kc] w6 fun e w' => e = .returned (.int .i64 (leV (ks.take 4))) ∧ But [] w6 w')
  clear hq hk5 hlo hgl hb6 hown hrow0
  dsimp only
  go_wp2_with fail
  refine HBITS.out.mono ?_
  rintro e w7 ⟨rfl, hb7⟩
  have HB7 := Lib.hid hb7
  clear hb7
  have s1 : wrap64 ((ks.length : Int) - 4) = (ks.length : Int) - 4 := by rw [wrap64]; have := HK80.out; omega
  have s2 : wrap64 (8 * ((ks.length : Int) - 4)) = 8 * ((ks.length : Int) - 4) := by rw [wrap64]; have := HK80.out; omega
  obtain ⟨m, hm⟩ : ∃ m, m = leV (ks.take 4) := ⟨_, rfl⟩
  rw [← hm]
  have HM := Lib.hid hm
  clear hm HBITS
  go_upto_if 69 with fail
  go_cut [] from 61 to 83 (fun wx => ∃ k', KeyOk k' ∧ k'.length = ks.length ∧ kbits k' = kbits ks ∧ PlS w2 wx P K V N (kbits ks) 0 vs k' (.slice (some ⟨g, o, none⟩) ks.length oc6))
  case first =>
    by_cases hlt : m < 8 * ((ks.length : Int) - 4)
    · have e1 : decide (m < 8 * ((ks.length : Int) - 4)) = true := decide_eq_true hlt
      have hq7 := HQ.out.but HB7.out (by simp)
      obtain ⟨y, hy⟩ : ∃ y, ks[ks.length - 1]? = some y := ⟨_, List.getElem?_eq_getElem (by have := HK5.out; omega)⟩
      have hc : w7.cell? ⟨g, o + (ks.length - 1), none⟩ = some (.int .u8 y) := hq7.cellAt (u8s_at hy)
      have hf : w7.frozen? ⟨g, o + (ks.length - 1), none⟩ = false := hq7.frozenAt _
      have p1 : wrap64 ((ks.length : Int) - 1) = (ks.length : Int) - 1 := by rw [wrap64]; have := HK80.out; have := HK5.out; omega
      have p2 : ((ks.length : Int) - 1).toNat = ks.length - 1 := by have := HK5.out; omega
      have p3 : (0 : Int) ≤ (ks.length : Int) - 1 := by have := HK5.out; omega
      have p4 : (ks.length : Int) - 1 < (ks.length : Int) := by omega
      have HRES : Hid (∃ k', KeyOk k' ∧ k'.length = ks.length ∧ kbits k' = kbits ks ∧ PlS w2 (w7.setCell ⟨g, o + (ks.length - 1), none⟩ (.int .u8 (bits .xor .u8 y (bits .and .u8 t 1)))) P K V N (kbits ks) 0 vs k' (.slice (some ⟨g, o, none⟩) ks.length oc6)) := Lib.hid (by
        have hyd : ks.getD (ks.length - 1) 0 = y := by rw [List.getD_eq_getElem?_getD, hy]; rfl
        obtain ⟨h1, h2, h3⟩ := turnK_ok HOK.out HK5.out HT.out (by rw [← HM.out]; exact hlt)
        refine ⟨turnK ks t, h1, h2, h3, S4, _, _, (HT6.out.new HB7.out).keep (L := [g]) ((But.refl _ _).setCell (.inl (by simp)) _) (fun x hx => ?_), putE_at _ _ _, HROW0.out, ?_, HNS.out⟩
        · simp only [List.mem_singleton] at hx
          subst hx
          refine ⟨HNS.out _ rfl, ?_⟩
          have h9 := HQ.out.lt rfl
          have h8 : w5.heap.size ≤ x := by
            exact HGL.out
          have := HT5.out.but.size
          omega
        · have := (hq7.set (ks.length - 1) (by rw [u8s_len]; have := HK5.out; omega) (.int .u8 (bits .xor .u8 y (bits .and .u8 t 1)))).sees
          have e2 : (u8s ks).set (ks.length - 1) (.int .u8 (bits .xor .u8 y (bits .and .u8 t 1))) = u8s (turnK ks t) := by
            unfold turnK u8s
            rw [hyd, List.map_set]
          rw [e2] at this
          exact this)
      clear hq7 hy
      go_wp2_with fail
      go_meet
      exact HRES.out
    · have e1 : decide (m < 8 * ((ks.length : Int) - 4)) = false := decide_eq_false hlt
      have e2 : 8 * ((ks.length : Int) - 4) ≤ m := by omega
      go_wp2_with fail
      go_meet
      exact ⟨ks, HOK.out, rfl, rfl, HPL0.out.new HB7.out⟩
  case rest =>
  obtain ⟨k', hk1, hk2, hk3, hpl⟩ := hcut
  refine (by assumption : ∀ (a : Act) (w1 : World), Code.wp _ _ _ a w1 → _) _ _ ?_
  have HOK' := Lib.hid hk1
  have HLEN' := Lib.hid hk2
  have HBITS' := Lib.hid hk3
  have HPL := Lib.hid hpl
  clear hk1 hk2 hk3 hpl HPL0 s1 s2
  go_wp2_with fail
  go_loopw [16] (fun i wr => ∃ j : Nat, j ≤ l.length ∧ i = .int .i64 (j : Int) ∧ PlS w2 wr P K V N (kbits ks) 0 vs k' (.slice (some ⟨g, o, none⟩) ks.length oc6)) (fun i _ => l.length - (intOf i).toNat)
  case atStart => exact ⟨0, Nat.zero_le _, rfl, HPL.out⟩
  case round =>
    obtain ⟨j, hj, rfl, hpl⟩ := hrel
    have HP := Lib.hid hpl
    have HBW : Hid (But [] w wr) := Lib.hid (HB02.out.trans hpl.but (by simp))
    clear hpl
    by_cases hlt : j < l.length
    · obtain ⟨hj0, hj1, hup⟩ := light_nums hlt HL60.out
      have HMS := Lib.hid (meas_up hlt)
      have HLT := Lib.hid hlt
      obtain ⟨d, hd⟩ : ∃ d, l[j]? = some d := ⟨_, List.getElem?_eq_getElem hlt⟩
      obtain ⟨oa', oc', hv, hD⟩ := HD.out
      simp only [Value.slice.injEq] at hv
      obtain ⟨rfl, -, rfl⟩ := hv
      obtain ⟨db, dof, rfl, hc, hok⟩ := hD j d hd
      have hfew := HLI.out.2.2 j d hd
      obtain ⟨a3, c3, e3, -⟩ := sees_shape hok.key
      obtain ⟨a5, c5, e5, -⟩ := sees_shape hok.b
      rw [u8s_len] at e3 e5
      have HKS3 : Hid (Sees w (.slice a3 d.ks.length c3) (u8s d.ks)) := Lib.hid (by rw [← e3]; exact hok.key)
      have HBS5 : Hid (Sees w (.slice a5 d.bs.length c5) (u8s d.bs)) := Lib.hid (by rw [← e5]; exact hok.b)
      have HC : Hid (∀ wx, But [] w wx → wx.cell? ⟨db, dof + j * 6, none⟩ = some (.int .i64 d.what) ∧ wx.cell? ⟨db, dof + j * 6 + 1, none⟩ = some (.slice a3 d.ks.length c3) ∧ wx.cell? ⟨db, dof + j * 6 + 2, none⟩ = some (.slice a5 d.bs.length c5) ∧ wx.cell? ⟨db, dof + j * 6 + 3, none⟩ = some (.int .u64 d.flags)) := Lib.hid fun wx hx => ⟨cell_but hx (hc 0 _ rfl) (by simp), by rw [← e3]; exact cell_but hx (hc 1 _ rfl) (by simp), by rw [← e5]; exact cell_but hx (hc 2 _ rfl) (by simp), cell_but hx (hc 3 _ rfl) (by simp)⟩
      have HOKD := Lib.hid hok
      have HFEW := Lib.hid hfew
      have hk80 := HK80.out
      have HBG1 := Lib.hid (begins_c a3 ka c3 kc d.ks ks wr (HKS3.out.but HBW.out (by simp)) (HKS.out.but HBW.out (by simp)) hok.keyb HKB.out (by have := hfew.1; omega) (by omega))
      have HBG2 : Hid (∀ wx, But [] w wx → Calls Try.prog 15 #[.slice ka ks.length kc, .slice a3 d.ks.length c3] wx fun e w' => e = .returned (.bool (begP ks d.ks)) ∧ But [] wx w') := Lib.hid fun wx hx => begins_c ka a3 kc c3 ks d.ks wx (HKS.out.but hx (by simp)) (HKS3.out.but hx (by simp)) HKB.out HOKD.out.keyb (by omega) (by have := HFEW.out.1; omega)
      have HNE : Hid ((begP d.ks ks = false ∨ begP ks d.ks = false) → ¬ KeyBad K d.ks → kbits d.ks ≠ kbits ks) := Lib.hid fun hb hbad he => by
        obtain ⟨h1, h2⟩ := keyOk_of HPL.out.num.1 HOKD.out.keyb hbad
        have h3 := begP_same h1 HOK.out (by rw [h2, HKL.out]) he
        have h4 := begP_same HOK.out h1 (by rw [h2, HKL.out]) he.symm
        rw [h3, h4] at hb
        rcases hb with hb | hb <;> cases hb
      obtain ⟨b1, hb1⟩ : ∃ b1, b1 = begP d.ks ks := ⟨_, rfl⟩
      obtain ⟨b2, hb2⟩ : ∃ b2, b2 = begP ks d.ks := ⟨_, rfl⟩
      rw [← hb1] at HBG1 HNE
      rw [← hb2] at HBG2 HNE
      have HKP : Hid (0 < k'.length) := Lib.hid (by rw [HLEN'.out]; have := HK5.out; omega)
      obtain ⟨g0, g1, g2, g3⟩ := HC.out wr HBW.out
      clear hd hD hc hok hfew e3 e5 hlt hb1 hb2 hk80
      -- the deed that is done
      have HDO : Hid (∀ wx, But [] wr wx → (b1 = false ∨ b2 = false) → PlS w2 wx P K V N (kbits ks) 0 vs k' (.slice (some ⟨g, o, none⟩) ks.length oc6) ∧ But [] w wx) := Lib.hid fun wx hx _ => ⟨HP.out.new hx, HBW.out.trans hx (by simp)⟩
      have HWHAT : Hid (-9223372036854775808 ≤ d.what ∧ d.what ≤ 9223372036854775807) := Lib.hid (by
        have := HOKD.out.what
        simp only [Lit.wf, IntKind.bits, IntKind.signed, Bool.and_eq_true, decide_eq_true_eq] at this
        exact this)
      cases b1
      · go_wp2_with fail
        refine HBG1.out.mono ?_
        rintro e w8 ⟨rfl, hb8⟩
        have HBZ := Lib.hid hb8
        clear hb8 HBG1
        have HPZ : Hid (PlS w2 w8 P K V N (kbits ks) 0 vs k' (.slice (some ⟨g, o, none⟩) ks.length oc6)) := Lib.hid (HP.out.new HBZ.out)
        have HBWZ : Hid (But [] w w8) := Lib.hid (HBW.out.trans HBZ.out (by simp))
        obtain ⟨f0, f1, f2, f3⟩ := HC.out w8 HBWZ.out
        clear g0 g1 g2 g3
        go_wp2_with fail
        refine (pick d.what 3 _ (by decide) (by decide) HWHAT.out.1 HWHAT.out.2).mono ?_
        rintro e w9 ⟨rfl, rfl⟩
        by_cases hw3 : d.what % 3 = 0
        · go_wp2_with fail
          refine (HPZ.out.del HKP.out a3 c3 (HKS3.out.but HBWZ.out (by simp)) HOKD.out.keyb (HNE.out (by simp))).mono ?_
          rintro e w10 ⟨v10, rfl, hp10⟩
          have HP10 := Lib.hid hp10
          clear hp10 f0 f1 f2 f3
          go_wp2_with fail
          go_roundw
          case rel => exact ⟨j + 1, HLT.out, by rw [hup]; rfl, HP10.out⟩
          case measure => rw [hup]; exact HMS.out
        · go_wp2_with fail
          refine wp_region_tail9 16 (by kernel_rfl) (by kernel_rfl) ?_
          simp only [List.take_succ_cons, List.take_zero, List.drop_succ_cons, List.drop_zero]
          repeat still_step
          refine wpStill_nil ?_
          go_wp2_with fail
          refine ((HPZ.out.new (But.refl [] _).drew).upd HKP.out a3 c3 (HKS3.out.but (HBWZ.out.drew) (by simp)) HOKD.out.keyb a5 c5 (HBS5.out.but (HBWZ.out.drew) (by simp)) HOKD.out.bb d.flags (low_in HKS3.out HB02.out.size) (low_in HBS5.out HB02.out.size) (HNE.out (by simp))).mono ?_
          rintro e w10 ⟨v10, rfl, hp10⟩
          have HP10 := Lib.hid hp10
          clear hp10 f0 f1 f2 f3
          go_wp2_with fail
          go_roundw
          case rel => exact ⟨j + 1, HLT.out, by rw [hup]; rfl, HP10.out⟩
          case measure => rw [hup]; exact HMS.out
      · cases b2
        · go_wp2_with fail
          refine HBG1.out.mono ?_
          rintro e w7b ⟨rfl, hb7⟩
          have HB7b := Lib.hid hb7
          have HBW7 : Hid (But [] w w7b) := Lib.hid (HBW.out.trans hb7 (by simp))
          obtain ⟨f0, f1, f2, f3⟩ := HC.out w7b HBW7.out
          clear hb7 HBG1 g0 g1 g2 g3
          go_wp2_with fail
          refine (HBG2.out _ HBW7.out).mono ?_
          rintro e w8 ⟨rfl, hb8⟩
          have HBZ : Hid (But [] wr w8) := Lib.hid (HB7b.out.trans hb8 (by simp))
          clear hb8 f0 f1 f2 f3
          have HPZ : Hid (PlS w2 w8 P K V N (kbits ks) 0 vs k' (.slice (some ⟨g, o, none⟩) ks.length oc6)) := Lib.hid (HP.out.new HBZ.out)
          have HBWZ : Hid (But [] w w8) := Lib.hid (HBW.out.trans HBZ.out (by simp))
          obtain ⟨f0, f1, f2, f3⟩ := HC.out w8 HBWZ.out
          go_wp2_with fail
          refine (pick d.what 3 _ (by decide) (by decide) HWHAT.out.1 HWHAT.out.2).mono ?_
          rintro e w9 ⟨rfl, rfl⟩
          by_cases hw3 : d.what % 3 = 0
          · go_wp2_with fail
            refine (HPZ.out.del HKP.out a3 c3 (HKS3.out.but HBWZ.out (by simp)) HOKD.out.keyb (HNE.out (by simp))).mono ?_
            rintro e w10 ⟨v10, rfl, hp10⟩
            have HP10 := Lib.hid hp10
            clear hp10 f0 f1 f2 f3
            go_wp2_with fail
            go_roundw
            case rel => exact ⟨j + 1, HLT.out, by rw [hup]; rfl, HP10.out⟩
            case measure => rw [hup]; exact HMS.out
          · go_wp2_with fail
            refine wp_region_tail9 16 (by kernel_rfl) (by kernel_rfl) ?_
            simp only [List.take_succ_cons, List.take_zero, List.drop_succ_cons, List.drop_zero]
            repeat still_step
            refine wpStill_nil ?_
            go_wp2_with fail
            refine ((HPZ.out.new (But.refl [] _).drew).upd HKP.out a3 c3 (HKS3.out.but (HBWZ.out.drew) (by simp)) HOKD.out.keyb a5 c5 (HBS5.out.but (HBWZ.out.drew) (by simp)) HOKD.out.bb d.flags (low_in HKS3.out HB02.out.size) (low_in HBS5.out HB02.out.size) (HNE.out (by simp))).mono ?_
            rintro e w10 ⟨v10, rfl, hp10⟩
            have HP10 := Lib.hid hp10
            clear hp10 f0 f1 f2 f3
            go_wp2_with fail
            go_roundw
            case rel => exact ⟨j + 1, HLT.out, by rw [hup]; rfl, HP10.out⟩
            case measure => rw [hup]; exact HMS.out
        · go_wp2_with fail
          refine HBG1.out.mono ?_
          rintro e w7b ⟨rfl, hb7⟩
          have HB7b := Lib.hid hb7
          have HBW7 : Hid (But [] w w7b) := Lib.hid (HBW.out.trans hb7 (by simp))
          obtain ⟨f0, f1, f2, f3⟩ := HC.out w7b HBW7.out
          clear hb7 HBG1 g0 g1 g2 g3
          go_wp2_with fail
          refine (HBG2.out _ HBW7.out).mono ?_
          rintro e w8 ⟨rfl, hb8⟩
          have HBZ : Hid (But [] wr w8) := Lib.hid (HB7b.out.trans hb8 (by simp))
          clear hb8 f0 f1 f2 f3
          go_wp2_with fail
          go_roundw
          case rel => exact ⟨j + 1, HLT.out, by rw [hup]; rfl, HP.out.new HBZ.out⟩
          case measure => rw [hup]; exact HMS.out
    · obtain rfl : j = l.length := by omega
      obtain ⟨S9, E9, rows9, hT9, hp9, hr9, hs9, hns9⟩ := HP.out
      have hbad' : ¬ KeyBad K k' := by
        unfold KeyBad
        rw [not_or]
        have h1 := HOK'.out.fits
        have h2 := HLEN'.out
        have h3 := HKL.out
        exact ⟨fun h => h (by rw [h2, h3]), by rw [← h3, ← h2]; omega⟩
      have hlk := hT9.lookup (some ⟨g, o, none⟩) oc6 (ks := k') (by rw [HLEN'.out]; exact hs9) HOK'.out.bytes
      rw [lookT_at hbad' (by rw [HBITS'.out]; exact hp9), HLEN'.out] at hlk
      have HLK := Lib.hid hlk
      have HT9 := Lib.hid hT9
      have HP9 := Lib.hid hp9
      have HR9 := Lib.hid hr9
      have HS9 := Lib.hid hs9
      have HNS9 := Lib.hid hns9
      have HBAD' := Lib.hid hbad'
      clear hT9 hp9 hr9 hs9 hns9 hbad' hlk
      go_wp2_with fail
      refine HLK.out.mono ?_
      rintro e wa ⟨rfl, hba⟩
      have HTA := Lib.hid (HT9.out.new hba)
      have HSA := Lib.hid (HS9.out.but hba (by simp))
      clear hba HLK
      go_wp2_with fail
      have hv := HTA.out.value 0
      have e1 : valA N rows9 0 = (vs, 0) := by
        unfold valA
        rw [if_neg (by have := HTA.out.num; omega)]
        simp [HR9.out]
      rw [e1] at hv
      refine hv.mono ?_
      rintro e wb ⟨bv, rfl, hnr, hbb⟩
      have HTB := Lib.hid (HTA.out.new hbb)
      have HSB := Lib.hid (HSA.out.but hbb (by simp))
      have HNR := Lib.hid hnr
      have HBB : Hid (But [] w wb) := Lib.hid (HB02.out.trans HTB.out.but (by simp))
      obtain ⟨ba, bc, rfl, -⟩ := hnr
      dsimp only
      clear hv hbb e1
      have hsm := same (.slice ba vs.length bc) (.slice va vs.length vc) vs vs wb (by
        obtain ⟨a9, c9, e9, h9, _⟩ := HNR.out
        rw [e9]
        exact h9.sees) (HVS.out.but HBB.out (by simp)) (by have := HVL.out; have := HTB.out.num; omega)
      rw [decide_eq_true rfl] at hsm
      have HSM := Lib.hid hsm
      clear hsm
      go_wp2_with fail
      refine HSM.out.mono ?_
      rintro e wc2 ⟨rfl, hbc⟩
      have HTC := Lib.hid (HTB.out.new hbc)
      have HSC := Lib.hid (HSB.out.but hbc (by simp))
      have HBC : Hid (But [] w wc2) := Lib.hid (HBB.out.trans hbc (by simp))
      have hup := HTC.out.update (some ⟨g, o, none⟩) oc6 (ks := k') (by rw [HLEN'.out]; exact HSC.out) HOK'.out.bytes va vc (HVS.out.but HBC.out (by simp)) HVB.out 1 (fun _ b hb => by rw [HLEN'.out] at hb; exact HNS9.out b hb) (fun h b hb hS => by have := low_in HVS.out HB02.out.size h b hb; have := (HTC.out.low b hS).1; omega)
      have e7 : updT K V N E9 rows9 k' vs 1 = (7, E9, rows9) := by
        unfold updT
        rw [if_neg (by rintro (h | h | h); exact HBAD'.out h; exact h HVL.out; omega), HBITS'.out, HP9.out]
        rfl
      rw [e7, HLEN'.out] at hup
      have HUP := Lib.hid hup
      clear hup e7 hbc HSM HNR HSA
      go_wp2_with fail
      refine HUP.out.mono ?_
      rintro e wd ⟨rfl, SD, hTD, htd⟩
      have HTD := Lib.hid hTD
      have hsd : Sees wd (.slice (some ⟨g, o, none⟩) ks.length oc6) (u8s k') := by
        obtain ⟨_, L, hL, hb⟩ := htd
        refine HSC.out.but hb (fun b hb' hm => ?_)
        have hlow := HSC.out.low (by rw [u8s_len, HLEN'.out]; have := HK5.out; omega) b hb'
        rcases hL b hm with h | h
        · exact HNS9.out b hb' h
        · omega
      have hd1 := hTD.delete (some ⟨g, o, none⟩) oc6 (ks := k') (by rw [HLEN'.out]; exact hsd) HOK'.out.bytes
      have e8 : delT K E9 k' = (0, putE E9 (kbits ks) none) := by
        unfold delT
        rw [if_neg HBAD'.out, HBITS'.out, HP9.out, if_neg (by simp)]
      rw [e8, HLEN'.out] at hd1
      have HD1 := Lib.hid hd1
      clear hTD htd hsd hd1 e8 HUP
      go_wp2_with fail
      refine HD1.out.mono ?_
      rintro e we ⟨rfl, SE, hTE, hte⟩
      have HTE := Lib.hid hTE
      have HBE : Hid (But [] w we) := Lib.hid (HB02.out.trans hTE.but (by simp))
      have hd2 := hTE.delete ka kc (HKS.out.but HBE.out (by simp)) HKB.out
      have e9 : delT K (putE E9 (kbits ks) none) ks = (6, putE E9 (kbits ks) none) := by
        unfold delT
        rw [if_neg HG1.out, putE_at, if_pos rfl]
      rw [e9] at hd2
      have HD2 := Lib.hid hd2
      clear hTE hte hd2 e9 HD1
      go_wp2_with fail
      refine HD2.out.mono ?_
      rintro e wf ⟨rfl, SF, hTF, htf⟩
      have HBF : Hid (But [] w wf) := Lib.hid (HB02.out.trans hTF.but (by simp))
      clear hTF htf HD2
      go_wp2_with fail
      go_ret
      exact ⟨rfl, HBF.out⟩
theorem triePlaces_walk (w : World) (s : MSpec) (kv : Value) (ks : List Int) (vv : Value) (vs : List Int) (dv : Value) (l : List DeedA) (t : Int) (hs : (Lit.int .u8 s.k).wf = true ∧ (Lit.int .i64 s.key).wf = true ∧ (Lit.int .i64 s.val).wf = true ∧ (Lit.int .i64 s.ent).wf = true)
    (hk : Sees w kv (u8s ks) ∧ ByteL ks) (hkl : ks.length ≤ 140737488351232) (hv : Sees w vv (u8s vs) ∧ ByteL vs) (hvl : vs.length ≤ 140737488351232) (hd : SeesDeeds w dv l) (hdl : l.length ≤ 3518437208780) (ht : (Lit.int .u8 t).wf = true) :
    Calls Try.prog 4 #[s.v, kv, vv, dv, .int .u8 t] w fun e w' => e = .returned (.bool true) ∧ Below w.heap.size w w' := by
  obtain ⟨a1, c1, e1, -⟩ := sees_shape hk.1
  obtain ⟨a2, c2, e2, -⟩ := sees_shape hv.1
  obtain ⟨a3, c3, e3, h3⟩ := id hd
  rw [u8s_len] at e1 e2
  subst e1 e2 e3
  exact (triePlaces s.k s.key s.val s.ent t a1 a2 a3 c1 c2 c3 ks vs l w hs.1 (wf8 ht) hk.1 hk.2 hv.1 hv.2 hd).mono fun _ _ ⟨he, hb⟩ => ⟨he, hb.below (Nat.le_refl _) (by simp)⟩
end Go.Proofs.Ytpoinhfkgnkedaa.M
