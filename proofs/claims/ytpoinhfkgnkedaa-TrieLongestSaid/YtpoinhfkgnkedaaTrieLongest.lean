/-
  TrieLongest: the walk.
-/
import Derived.Test.YtpoinhfkgnkedaaTrLoP
import Derived.Test.YtpoinhfkgnkedaaTOpen8
namespace Go.Proofs.Ytpoinhfkgnkedaa.M
open Go.RowKit Go.Shelf
set_option linter.unusedVariables false
set_option linter.unusedSectionVars false
set_option linter.unusedSimpArgs false
theorem SeesDeeds.new {w w' : World} {v : Value} {l : List DeedA} (h : SeesDeeds w v l) (hb : But [] w w') : SeesDeeds w' v l := by
  obtain ⟨a, c, h1, h2⟩ := h
  exact ⟨a, c, h1, fun i d hi => (h2 i d hi).keep hb⟩
theorem low_in {w : World} {a : Option Addr} {c : Nat} {ks : List Int} (hs : Sees w (.slice a ks.length c) (u8s ks)) {w' : World} (hb : w.heap.size ≤ w'.heap.size) : 0 < ks.length → ∀ b, (Value.slice a ks.length c).ownBlock = some b → b < w'.heap.size := fun h0 b hb' => by
  have := hs.low (by rw [u8s_len]; exact h0) b hb'
  omega

/-- What stands while deeds are done. -/
def LgS (wn wr : World) (P K V N : Nat) : Prop := ∃ S E rows, TO wn wr S P K V N E rows
section
variable {wn wr : World} {P K V N : Nat}
theorem LgS.new {w' : World} (h : LgS wn wr P K V N) (hb : But [] wr w') : LgS wn w' P K V N := by
  obtain ⟨S, E, rows, h1⟩ := h
  exact ⟨S, E, rows, h1.new hb⟩
theorem LgS.but (h : LgS wn wr P K V N) : But [] wn wr := by
  obtain ⟨S, E, rows, h1⟩ := h
  exact h1.but
theorem LgS.del (h : LgS wn wr P K V N) (a : Option Addr) (c : Nat) {ks : List Int} (hs : Sees wr (.slice a ks.length c) (u8s ks)) (hk : ByteL ks) :
    Calls Try.prog 11 #[.pointer (some ⟨P, 0, none⟩), .slice a ks.length c] wr fun e w' => ∃ v, e = .returned (.int .i64 v) ∧ LgS wn w' P K V N := by
  obtain ⟨S, E, rows, h1⟩ := h
  refine (h1.delete a c hs hk).mono ?_
  rintro e w' ⟨rfl, S', hT, ht⟩
  exact ⟨_, rfl, S', _, _, hT⟩
theorem LgS.upd (h : LgS wn wr P K V N) (a : Option Addr) (c : Nat) {ks : List Int} (hs : Sees wr (.slice a ks.length c) (u8s ks)) (hk : ByteL ks) (va : Option Addr) (vc : Nat) {us : List Int} (hsv : Sees wr (.slice va us.length vc) (u8s us)) (hv : ByteL us) (fl : Int)
    (hka : 0 < ks.length → ∀ b, (Value.slice a ks.length c).ownBlock = some b → b < wn.heap.size) (hva : 0 < us.length → ∀ b, (Value.slice va us.length vc).ownBlock = some b → b < wn.heap.size) :
    Calls Try.prog 12 #[.pointer (some ⟨P, 0, none⟩), .slice a ks.length c, .slice va us.length vc, .int .u64 fl] wr fun e w' => ∃ v, e = .returned (.int .i64 v) ∧ LgS wn w' P K V N := by
  obtain ⟨S, E, rows, h1⟩ := h
  refine (h1.update a c hs hk va vc hsv hv fl (fun h b hb hS => by have := hka h b hb; have := (h1.low b hS).1; omega) (fun h b hb hS => by have := hva h b hb; have := (h1.low b hS).1; omega)).mono ?_
  rintro e w' ⟨rfl, S', hT, ht⟩
  exact ⟨_, rfl, S', _, _, hT⟩
theorem KeysE.perm {E : EMap} {L Q : List (List Int)} (h : KeysE K E L) (hp : Q.Perm L) : KeysE K E Q :=
  ⟨fun ks hk => h.ok ks (hp.mem_iff.1 hk), fun π p hE => by obtain ⟨ks, h1, h2⟩ := h.all π p hE; exact ⟨ks, hp.mem_iff.2 h1, h2⟩, (hp.map kbits).nodup_iff.2 h.nodup⟩
end
/-- The places that have been told. -/
def usedJ (E : EMap) (Q : List (List Int)) (j : Nat) : Nat → Bool := fun q => (Q.take j).any fun x => plE E x == q
theorem usedJ_fresh {K : Nat} {E : EMap} {Q : List (List Int)} (hK : KeysE K E Q) (hE : ∀ π ρ p, E π = some p → E ρ = some p → π = ρ) {j : Nat} {q : List Int} (hq : Q[j]? = some q) : usedJ E Q j (plE E q) = false := by
  unfold usedJ
  rw [List.any_eq_false]
  intro x hx
  obtain ⟨i, hi, he⟩ := List.mem_iff_getElem.1 hx
  rw [List.getElem_take] at he
  have hij : i < j := by simp at hi; omega
  have hiQ : i < Q.length := by simp at hi; omega
  simp only [beq_iff_eq]
  intro h
  have := plE_inj hK hE (i := i) (j := j) (a := x) (b := q) (by rw [← he]; exact List.getElem?_eq_getElem hiQ) hq h
  omega
theorem usedJ_more {E : EMap} {Q : List (List Int)} {j : Nat} {q : List Int} (hq : Q[j]? = some q) : usedJ E Q (j + 1) = upd (usedJ E Q j) (plE E q) true := by
  funext y
  unfold usedJ upd
  rw [List.take_add_one, hq]
  simp only [Option.toList_some, List.any_append, List.any_cons, List.any_nil, Bool.or_false]
  by_cases h : y = plE E q
  · subst h; simp
  · rw [if_neg h]
    have : (plE E q == y) = false := by rw [beq_eq_false_iff_ne]; exact fun e => h e.symm
    simp [this]
set_option maxRecDepth 100000 in
set_option maxHeartbeats 4000000 in
theorem trieLongest (k key val ent : Int) (ka oa : Option Addr) (kc oc : Nat) (ks : List Int) (l : List DeedA) (w : World) (hk : (Lit.int .u8 k).wf = true)
    (hks : Sees w (.slice ka ks.length kc) (u8s ks)) (hkb : ByteL ks) (hd : SeesDeeds w (.slice oa l.length oc) l) :
    Calls Try.prog 3 #[.agg #[.int .u8 k, .int .i64 key, .int .i64 val, .int .i64 ent], .slice oa l.length oc, .slice ka ks.length kc] w fun e w' => e = .returned (.bool true) ∧ But [] w w' := by
  have HKS := Lib.hid hks
  have HKB := Lib.hid hkb
  have HD := Lib.hid hd
  clear hks hkb hd
  go_enter Try.func3, Try.ntmps3
  go_wp2_with fail
  refine (awake _).mono ?_
  rintro e w1 ⟨rfl, hb1⟩
  have HS : Hid (w1.heap[w.heap.size]? = some (.cells #[.int .u8 k, .int .i64 key, .int .i64 val, .int .i64 ent] 24)) := Lib.hid (hb1.heap (al_at _ _) (by simp))
  have HB1 : Hid (But [] w w1) := Lib.hid (((But.refl [] w).alloc _).trans hb1 (by simp))
  clear hb1
  have s0 : w1.cell? ⟨w.heap.size, 0, none⟩ = some (.int .u8 k) := cl_of HS.out 0
  have s1 : w1.cell? ⟨w.heap.size, 1, none⟩ = some (.int .i64 key) := cl_of HS.out 1
  have s2 : w1.cell? ⟨w.heap.size, 2, none⟩ = some (.int .i64 val) := cl_of HS.out 2
  have s3 : w1.cell? ⟨w.heap.size, 3, none⟩ = some (.int .i64 ent) := cl_of HS.out 3
  go_wp2_with fail
  refine (light k key val ent (.slice oa l.length oc) l _ (HD.out.new HB1.out)).mono ?_
  rintro e w2 ⟨b, rfl, hli, hw2⟩
  have HB2 : Hid (But [] w1 w2) := Lib.hid (by rw [hw2]; exact (But.refl [] w1).alloc _)
  have HB02 : Hid (But [] w w2) := Lib.hid (HB1.out.trans HB2.out (by simp))
  clear hw2 s0 s1 s2 s3
  have hs2 := HB2.out.heap HS.out (by simp)
  have s0 : w2.cell? ⟨w.heap.size, 0, none⟩ = some (.int .u8 k) := cl_of hs2 0
  have s1 : w2.cell? ⟨w.heap.size, 1, none⟩ = some (.int .i64 key) := cl_of hs2 1
  have s2 : w2.cell? ⟨w.heap.size, 2, none⟩ = some (.int .i64 val) := cl_of hs2 2
  have s3 : w2.cell? ⟨w.heap.size, 3, none⟩ = some (.int .i64 ent) := cl_of hs2 3
  clear hs2
  cases b
  · go_wp2_with fail
    go_ret
    exact ⟨rfl, HB02.out⟩
  have HLI := Lib.hid (hli rfl)
  clear hli
  by_cases q1 : (80 : Int) < ks.length
  · have r1 : decide ((80 : Int) < ks.length) = true := decide_eq_true q1
    go_wp2_with fail
    go_ret
    exact ⟨rfl, HB02.out⟩
  have r1 : decide ((80 : Int) < ks.length) = false := decide_eq_false q1
  have HL60 : Hid (l.length ≤ 60) := Lib.hid HLI.out.2.1
  have HK80 : Hid (ks.length ≤ 80) := Lib.hid (by omega)
  go_wp2_with fail
  clear q1 r1
  rcases newTwo k key val ent w2 hk with ⟨E, hE1, hE2, hN⟩ | ⟨K, V, N, rfl, rfl, rfl, hN⟩
  · refine hN.mono ?_
    rintro e w3 ⟨rfl, hb3⟩
    have HB3 := Lib.hid (HB02.out.trans hb3 (by simp))
    clear hb3 hN
    go_wp2_with fail
    go_ret
    exact ⟨rfl, HB3.out⟩
  refine hN.mono ?_
  rintro e w3 ⟨P, S3, rfl, hT3⟩
  have HLG := Lib.hid (show LgS w2 w3 P K V N from ⟨S3, _, _, hT3⟩)
  have HNUM := Lib.hid hT3.num
  clear hT3 hN s0 s1 s2 s3 hk
  go_wp2_with fail
  go_loopw [9] (fun i wr => ∃ j : Nat, j ≤ l.length ∧ i = .int .i64 (j : Int) ∧ LgS w2 wr P K V N) (fun i _ => l.length - (intOf i).toNat)
  case atStart => exact ⟨0, Nat.zero_le _, rfl, HLG.out⟩
  case round =>
    obtain ⟨j, hj, rfl, hpl⟩ := hrel
    have HP := Lib.hid hpl
    have HBW : Hid (But [] w wr) := Lib.hid (HB02.out.trans hpl.but (by simp))
    clear hpl
    by_cases hlt : j < l.length
    · obtain ⟨hj0, hj1, hup⟩ := light_nums hlt HL60.out
      have HMS := Lib.hid (meas_up hlt)
      have HLT := Lib.hid hlt
      obtain ⟨d, hd⟩ : ∃ d, l[j]? = some d := ⟨_, List.getElem?_eq_getElem hlt⟩
      obtain ⟨oa', oc', hv, hD⟩ := HD.out
      simp only [Value.slice.injEq] at hv
      obtain ⟨rfl, -, rfl⟩ := hv
      obtain ⟨db, dof, rfl, hc, hok⟩ := hD j d hd
      have hfew := HLI.out.2.2 j d hd
      obtain ⟨a3, c3, e3, -⟩ := sees_shape hok.key
      obtain ⟨a5, c5, e5, -⟩ := sees_shape hok.b
      rw [u8s_len] at e3 e5
      have HKS3 : Hid (Sees w (.slice a3 d.ks.length c3) (u8s d.ks)) := Lib.hid (by rw [← e3]; exact hok.key)
      have HBS5 : Hid (Sees w (.slice a5 d.bs.length c5) (u8s d.bs)) := Lib.hid (by rw [← e5]; exact hok.b)
      have HC : Hid (∀ wx, But [] w wx → wx.cell? ⟨db, dof + j * 6, none⟩ = some (.int .i64 d.what) ∧ wx.cell? ⟨db, dof + j * 6 + 1, none⟩ = some (.slice a3 d.ks.length c3) ∧ wx.cell? ⟨db, dof + j * 6 + 2, none⟩ = some (.slice a5 d.bs.length c5) ∧ wx.cell? ⟨db, dof + j * 6 + 3, none⟩ = some (.int .u64 d.flags)) := Lib.hid fun wx hx => ⟨cell_but hx (hc 0 _ rfl) (by simp), by rw [← e3]; exact cell_but hx (hc 1 _ rfl) (by simp), by rw [← e5]; exact cell_but hx (hc 2 _ rfl) (by simp), cell_but hx (hc 3 _ rfl) (by simp)⟩
      have HOKD := Lib.hid hok
      have HFEW := Lib.hid hfew
      obtain ⟨f0, f1, f2, f3⟩ := HC.out wr HBW.out
      clear hd hD hc hok hfew e3 e5 hlt
      have HWHAT : Hid (-9223372036854775808 ≤ d.what ∧ d.what ≤ 9223372036854775807) := Lib.hid (by
        have := HOKD.out.what
        simp only [Lit.wf, IntKind.bits, IntKind.signed, Bool.and_eq_true, decide_eq_true_eq] at this
        exact this)
      go_wp2_with fail
      refine (pick d.what 3 _ (by decide) (by decide) HWHAT.out.1 HWHAT.out.2).mono ?_
      rintro e w9 ⟨rfl, rfl⟩
      by_cases hw3 : d.what % 3 = 0
      · go_wp2_with fail
        refine (HP.out.del a3 c3 (HKS3.out.but HBW.out (by simp)) HOKD.out.keyb).mono ?_
        rintro e w10 ⟨v10, rfl, hp10⟩
        have HP10 := Lib.hid hp10
        clear hp10 f0 f1 f2 f3
        go_wp2_with fail
        go_roundw
        case rel => exact ⟨j + 1, HLT.out, by rw [hup]; rfl, HP10.out⟩
        case measure => rw [hup]; exact HMS.out
      · go_wp2_with fail
        refine wp_region_tail9 16 (by kernel_rfl) (by kernel_rfl) ?_
        simp only [List.take_succ_cons, List.take_zero, List.drop_succ_cons, List.drop_zero]
        repeat still_step
        refine wpStill_nil ?_
        go_wp2_with fail
        refine ((HP.out.new (But.refl [] _).drew).upd a3 c3 (HKS3.out.but (HBW.out.drew) (by simp)) HOKD.out.keyb a5 c5 (HBS5.out.but (HBW.out.drew) (by simp)) HOKD.out.bb d.flags (low_in HKS3.out HB02.out.size) (low_in HBS5.out HB02.out.size)).mono ?_
        rintro e w10 ⟨v10, rfl, hp10⟩
        have HP10 := Lib.hid hp10
        clear hp10 f0 f1 f2 f3
        go_wp2_with fail
        go_roundw
        case rel => exact ⟨j + 1, HLT.out, by rw [hup]; rfl, HP10.out⟩
        case measure => rw [hup]; exact HMS.out
    · obtain rfl : j = l.length := by omega
      obtain ⟨S, E, rows, hT⟩ := HP.out
      have HT := Lib.hid hT
      have HKEYS := Lib.hid hT.keys
      clear hT hlt hj
      go_wp2_with fail
      refine HKEYS.out.mono ?_
      rintro e wk ⟨a, c, L, rfl, hKE, hLN, ps, hp1, hp2, hp3, hp4, hp5, hp6, hp7⟩
      obtain ⟨Q, hQ⟩ : ∃ Q : List (List Int), Q = ps.map (·.2) := ⟨_, rfl⟩
      obtain ⟨Vv, hVv⟩ : ∃ Vv : List Value, Vv = ps.map (·.1) := ⟨_, rfl⟩
      rw [← hQ] at hp1
      rw [← hVv] at hp2
      have hKQ := hKE.perm hp1
      have hQl : Q.length = L.length := hp1.length_eq
      have hVl : Vv.length = Q.length := by rw [hVv, hQ, List.length_map, List.length_map]
      have hpl : ps.length = Q.length := by rw [hQ, List.length_map]
      rw [hpl] at hp2 hp6
      rw [← hQl] at hLN ⊢
      have hTk := HT.out.new hp7
      have HBK : Hid (But [] w wk) := Lib.hid (HB02.out.trans hTk.but (by simp))
      have HROWS : Hid (∀ (j : Nat) (v : Value) (q : List Int), Vv[j]? = some v → Q[j]? = some q → NewRow wr wk v q) := Lib.hid fun j v q hv hq => by
        rw [hVv, List.getElem?_map] at hv
        rw [hQ, List.getElem?_map] at hq
        obtain ⟨x, hx, rfl⟩ := Option.map_eq_some_iff.1 hv
        rw [hx] at hq
        cases hq
        exact hp3 x (List.mem_of_getElem? hx)
      have HTK := Lib.hid hTk
      have HKQ := Lib.hid hKQ
      have HOUT := Lib.hid hp2
      have HLN := Lib.hid hLN
      have HVL := Lib.hid hVl
      have HLOW := Lib.hid hp6
      have HWRK := Lib.hid hp7
      have hs3 : wk.heap[w.heap.size]? = some (.cells #[.int .u8 k, .int .i64 K, .int .i64 V, .int .i64 N] 24) := (HB2.out.trans HTK.out.but (by simp)).heap HS.out (by simp)
      have s1 : wk.cell? ⟨w.heap.size, 1, none⟩ = some (.int .i64 K) := cl_of hs3 1
      have s3 : wk.cell? ⟨w.heap.size, 3, none⟩ = some (.int .i64 N) := cl_of hs3 3
      obtain ⟨m0, mi, mz0, mz1, mz2⟩ := info_parts (show (Try.prog.info? 4).map (fun i => (i.zero, i.size, i.bytes)) = some (some (.bool false), 1, 1) by kernel_rfl)
      have hmU : ∀ w, (Instr.makeSlice 41 (.int .i64 (N : Int)) (.int .i64 (N : Int))).run Try.prog w = .ok (.slice (some ⟨w.heap.size, 0, none⟩) N N) (w.alloc (.cells (madeCells #[.bool false] N) 4)) := fun w => by
        have hN := HNUM.out
        have h := run_make (P := Try.prog) w 41 4 m0 (.bool false) Try.underlying41 mi mz0 .i64 .i64 (N : Int) (N : Int) (by omega) (by omega) (by rw [mz2]; omega) (by omega)
        rw [h, mz1]
        simp only [Int.toNat_natCast, Nat.mul_one]
        rfl
      clear hKE hLN hp1 hp2 hp3 hp4 hp5 hp6 hp7 hQ hVv hKQ hQl hVl hpl hTk hs3 mi mz0 mz1 mz2 HKEYS
      dsimp only
      go_wp2_with fail
      obtain ⟨w9, hw9⟩ : ∃ w9, w9 = wk.alloc (.cells (madeCells #[.bool false] N) 4) := ⟨_, rfl⟩
      rw [← hw9]
      have hb9 : But [] wk w9 := by rw [hw9]; exact (But.refl [] wk).alloc _
      have hU0 : UsedW w9 wk.heap.size N (usedJ E Q 0) := ⟨_, by rw [hw9]; exact al_at _ _, by simp [madeCells], fun i hi => by
        rw [← Array.getElem?_toList, toList_madeCells_one, List.getElem?_replicate, if_pos hi]
        simp [usedJ]⟩
      have HU0 := Lib.hid hU0
      have HB9 := Lib.hid hb9
      have HT9 := Lib.hid (HTK.out.new hb9)
      clear hw9 hU0 hb9 s1 s3 hmU
      go_loopw [12, 13, 14] (fun b g i wx => ∃ j : Nat, j ≤ Q.length ∧ b = .int .i64 (bestF E ks (Q.take j)).1 ∧ g = .int .i64 (bestF E ks (Q.take j)).2 ∧ i = .int .i64 (j : Int) ∧ But [wk.heap.size] w9 wx ∧ UsedW wx wk.heap.size N (usedJ E Q j)) (fun _ _ i _ => Q.length - (intOf i).toNat)
      case atStart => exact ⟨0, Nat.zero_le _, rfl, rfl, rfl, But.refl _ _, HU0.out⟩
      case round =>
        rename World => wq
        obtain ⟨j, hj, rfl, rfl, rfl, hbq, huq⟩ := hrel
        have HBQ := Lib.hid hbq
        have HUQ := Lib.hid huq
        have hnS : ¬ S wk.heap.size := fun h => by have := (HTK.out.low _ h).2; omega
        have hTq := HT9.out.keep hbq (fun x hx => by
          simp only [List.mem_singleton] at hx
          subst hx
          have := HTK.out.but.size
          exact ⟨hnS, by omega⟩)
        have HTQ := Lib.hid hTq
        have HBWQ : Hid (But [] w wq) := Lib.hid (HB02.out.trans hTq.but (by simp))
        clear hbq huq hnS hTq
        by_cases hlt : j < Q.length
        · have hNN := HNUM.out
          have hLN := HLN.out
          have hup : wrap64 ((j : Int) + 1) = (j : Int) + 1 := wrap_up (by omega)
          have hj0 : (0 : Int) ≤ (j : Int) := by omega
          have hj1 : (j : Int) < (Q.length : Int) := by omega
          have HMS := Lib.hid (meas_up hlt)
          have HLT := Lib.hid hlt
          obtain ⟨v, hv⟩ : ∃ v, Vv[j]? = some v := ⟨_, List.getElem?_eq_getElem (by rw [HVL.out]; exact hlt)⟩
          obtain ⟨q, hq⟩ : ∃ q, Q[j]? = some q := ⟨_, List.getElem?_eq_getElem hlt⟩
          obtain ⟨va, vc, rfl, hvo, -⟩ := HROWS.out j v q hv hq
          obtain ⟨ho, hql, hqp, p0, hE0⟩ := HKQ.out.ok q (List.mem_of_getElem? hq)
          have hpe : plE E q = p0 := by unfold plE; rw [hE0]; rfl
          obtain ⟨ga, gof, rfl⟩ := HOUT.out.addr (by omega)
          have hs0 := hvo.sees
          have HBWX : Hid (∀ wx, But [wk.heap.size] w9 wx → But [] w wx) := Lib.hid fun wx hx => (HBK.out.trans HB9.out (by simp)).trans hx (fun x hm => .inr (by
            simp only [List.mem_singleton] at hm
            have := HBK.out.size
            omega))
          have HSV : Hid (∀ wx, But [wk.heap.size] w9 wx → Sees wx (.slice va q.length vc) (u8s q)) := Lib.hid fun wx hx => (hs0.but HB9.out (by simp)).but hx (fun k hk hm => by
            simp only [List.mem_singleton] at hm
            have := hs0.low (by rw [u8s_len]; have := ho.four; omega) k hk
            omega)
          have HCV : Hid (∀ wx, But [wk.heap.size] w9 wx → wx.cell? ⟨ga, gof + j, none⟩ = some (.slice va K vc)) := Lib.hid fun wx hx => by
            have h1 := HOUT.out.cellAt hv
            rw [hql] at h1
            have h2 := HOUT.out.lt rfl
            exact cell_but hx (cell_but HB9.out h1 (by simp)) (fun hm => by
              have e : ga = wk.heap.size := List.mem_singleton.1 hm
              have h3 : ga < wk.heap.size := h2
              omega)
          have HSP : Hid (∀ wx, But [wk.heap.size] w9 wx → wx.cell? ⟨w.heap.size, 1, none⟩ = some (.int .i64 K) ∧ wx.cell? ⟨w.heap.size, 3, none⟩ = some (.int .i64 N)) := Lib.hid fun wx hx => by
            have h1 : wk.heap[w.heap.size]? = some (.cells #[.int .u8 k, .int .i64 K, .int .i64 V, .int .i64 N] 24) := (HB2.out.trans HTK.out.but (by simp)).heap HS.out (by simp)
            have h2 := hx.heap (HB9.out.heap h1 (by simp)) (by simp; have := lt_of h1; omega)
            exact ⟨cl_of h2 1, cl_of h2 3⟩
          have HBG : Hid (∀ wx, But [wk.heap.size] w9 wx → Calls Try.prog 15 #[.slice va K vc, .slice ka ks.length kc] wx fun e w' => e = .returned (.bool (begP q ks)) ∧ But [] wx w') := Lib.hid fun wx hx => by
            rw [← hql]
            exact begins_c va ka vc kc q ks wx (HSV.out wx hx) (HKS.out.but (HBWX.out wx hx) (by simp)) ho.bytes HKB.out (by omega) (by have := HK80.out; omega)
          have HBT : Hid (∀ wx, But [wk.heap.size] w9 wx → Calls Try.prog 16 #[.slice va K vc] wx fun e w' => e = .returned (.int .i64 (leV (q.take 4))) ∧ But [] wx w') := Lib.hid fun wx hx => by
            obtain ⟨ad, hva⟩ := sees_some hs0 (by have := ho.four; omega)
            have h1 := HSV.out wx hx
            rw [hva] at h1 ⊢
            rw [← hql]
            exact bitsl_b ad vc q wx h1 ho.bytes ho.four
          have hbadq : ¬ KeyBad K q := by
            unfold KeyBad
            rw [not_or]
            exact ⟨fun h => h hql, by have := ho.fits; rw [hql] at this; omega⟩
          have hlk := HTQ.out.lookup va vc (ks := q) (HSV.out wq HBQ.out) ho.bytes
          rw [lookT_at hbadq hE0, hql] at hlk
          have hp0 := HTQ.out.plt hE0
          have huf : usedJ E Q j p0 = false := by rw [← hpe]; exact usedJ_fresh HKQ.out (fun π ρ p h1 h2 => HTQ.out.pinj h1 h2) hq
          have HUF := Lib.hid huf
          have HP0 := Lib.hid hp0
          have HLK := Lib.hid hlk
          have hum : usedJ E Q (j + 1) = upd (usedJ E Q j) p0 true := by rw [← hpe]; exact usedJ_more hq
          have HUM := Lib.hid hum
          have HBEST : Hid (bestF E ks (Q.take (j + 1)) = bestS E ks (bestF E ks (Q.take j)) q) := Lib.hid (by rw [List.take_add_one, hq]; exact bestF_snoc _ _ _ _)
          have HBS : Hid (∀ b : Int × Int, bestS E ks b q = if begP q ks = true ∧ b.2 < leV (q.take 4) then ((p0 : Int), leV (q.take 4)) else b) := Lib.hid fun b => by
            unfold bestS
            rw [hpe]
          obtain ⟨bl, hbl⟩ : ∃ bl, bl = bestF E ks (Q.take j) := ⟨_, rfl⟩
          rw [← hbl] at HBEST ⊢
          obtain ⟨bb, bg⟩ := bl
          dsimp only
          have r1 := HCV.out wq HBQ.out
          have i1 : decide (((p0 : Nat) : Int) < 0) = false := decide_eq_false (by omega)
          have i2 : decide ((N : Int) ≤ ((p0 : Nat) : Int)) = false := decide_eq_false (by omega)
          have i5 : decide (N ≤ p0) = false := decide_eq_false (by omega)
          have i3 : (0 : Int) ≤ ((p0 : Nat) : Int) := by omega
          have i4 : ((p0 : Nat) : Int) < (N : Int) := by omega
          clear hv hq hvo ho hql hqp hE0 hpe hs0 hbadq hlk hp0 huf hum hbl hNN hLN hlt hj
          go_wp2_with fail
          refine HLK.out.mono ?_
          rintro e w10 ⟨rfl, hb10⟩
          have HB10 : Hid (But [wk.heap.size] w9 w10) := Lib.hid (HBQ.out.trans hb10 (by simp))
          have HU10 := Lib.hid (HUQ.out.but hb10 (by simp))
          have r2 := HCV.out w10 HB10.out
          obtain ⟨r3, r4⟩ := HSP.out w10 HB10.out
          obtain ⟨C, hC, hCs, hCc⟩ := id HU10.out
          have r5 : w10.cell? ⟨wk.heap.size, p0, none⟩ = some (.bool false) := by rw [cl_of hC, hCc p0 HP0.out, HUF.out]
          clear hb10 hC hCs hCc r1 HLK
          go_wp2_with fail
          go_quiet (fail)
          obtain ⟨w11, h11⟩ : ∃ wz, wz = w10.drewN nq := ⟨_, rfl⟩
          rw [← h11]
          have hb11 : But [] w10 w11 := by rw [h11]; exact (But.refl [] _).drewN _
          have HB11 : Hid (But [wk.heap.size] w9 w11) := Lib.hid (HB10.out.trans hb11 (by simp))
          have HU11 := Lib.hid (HU10.out.but hb11 (by simp))
          clear r2 r3 r4 r5 h11 hb11
          obtain ⟨C, hC, hCs, hCc⟩ := id HU11.out
          have r6 : w11.frozen? ⟨wk.heap.size, p0, none⟩ = false := fz_of hC _
          have r7 : w11.cell? ⟨wk.heap.size, p0, none⟩ = some (.bool false) := by rw [cl_of hC, hCc p0 HP0.out, HUF.out]
          have hU12 : UsedW (w11.setCell ⟨wk.heap.size, p0, none⟩ (.bool true)) wk.heap.size N (usedJ E Q (j + 1)) := by
            rw [HUM.out]
            refine ⟨C.set! p0 (.bool true), ?_, by simp [hCs], fun i hi => ?_⟩
            · rw [heap_setC hC]
            · by_cases ei : i = p0
              · subst ei
                rw [upd_at]
                simp [hCs, HP0.out]
              · rw [upd_ne _ _ ei, ← hCc i hi]
                simp [Array.getElem?_setIfInBounds_ne (Ne.symm ei)]
          have hb12 : But [wk.heap.size] w9 (w11.setCell ⟨wk.heap.size, p0, none⟩ (.bool true)) := HB11.out.setCell (.inl (by simp)) _
          have HU12 := Lib.hid hU12
          have HB12 := Lib.hid hb12
          have r2 := HCV.out _ hb12
          clear hC hCs hCc hU12 hb12
          go_wp2_with fail
          refine (HBG.out _ HB12.out).mono ?_
          rintro e w13 ⟨rfl, hb13⟩
          have HB13 := Lib.hid (HB12.out.trans hb13 (by simp))
          have HU13 := Lib.hid (HU12.out.but hb13 (by simp))
          have r3 := HCV.out _ HB13.out
          clear hb13 r2 r6 r7 HU12 HB12 HU11 HB11 HU10 HB10
          have HBEST' : Hid (bestF E ks (Q.take (j + 1)) = if begP q ks = true ∧ bg < leV (q.take 4) then ((p0 : Int), leV (q.take 4)) else (bb, bg)) := Lib.hid (by rw [HBEST.out, HBS.out])
          clear HBEST HBS
          obtain ⟨bp, hbp⟩ : ∃ bp, bp = begP q ks := ⟨_, rfl⟩
          rw [← hbp] at HBEST' ⊢
          obtain ⟨lv, hlv⟩ : ∃ lv, lv = leV (q.take 4) := ⟨_, rfl⟩
          rw [← hlv] at HBEST' HBT
          clear hbp hlv
          cases bp
          · go_wp2_with fail
            go_roundw
            case rel => exact ⟨j + 1, HLT.out, by rw [HBEST'.out]; rfl, by rw [HBEST'.out]; rfl, by rw [hup]; rfl, HB13.out, HU13.out⟩
            case measure => rw [hup]; exact HMS.out
          go_wp2_with fail
          refine (HBT.out _ HB13.out).mono ?_
          rintro e w14 ⟨rfl, hb14⟩
          have HB14 := Lib.hid (HB13.out.trans hb14 (by simp))
          have HU14 := Lib.hid (HU13.out.but hb14 (by simp))
          have r4 := HCV.out _ HB14.out
          clear hb14 r3 HU13 HB13
          by_cases hgt : bg < lv
          · have q1 : decide (bg < lv) = true := decide_eq_true hgt
            have HBEST : Hid (bestF E ks (Q.take (j + 1)) = ((p0 : Int), lv)) := Lib.hid (by rw [HBEST'.out, if_pos (by simpa using hgt)])
            clear HBEST' hgt
            go_wp2_with fail
            refine (HBT.out _ HB14.out).mono ?_
            rintro e w15 ⟨rfl, hb15⟩
            have HB15 := Lib.hid (HB14.out.trans hb15 (by simp))
            have HU15 := Lib.hid (HU14.out.but hb15 (by simp))
            clear hb15 r4
            go_wp2_with fail
            go_roundw
            case rel => exact ⟨j + 1, HLT.out, by rw [HBEST.out], by rw [HBEST.out], by rw [hup]; rfl, HB15.out, HU15.out⟩
            case measure => rw [hup]; exact HMS.out
          · have q1 : decide (bg < lv) = false := decide_eq_false hgt
            have HBEST : Hid (bestF E ks (Q.take (j + 1)) = (bb, bg)) := Lib.hid (by rw [HBEST'.out, if_neg (by simpa using hgt)])
            clear HBEST' hgt
            go_wp2_with fail
            go_roundw
            case rel => exact ⟨j + 1, HLT.out, by rw [HBEST.out], by rw [HBEST.out], by rw [hup]; rfl, HB14.out, HU14.out⟩
            case measure => rw [hup]; exact HMS.out
        · obtain rfl : j = Q.length := by omega
          rw [Q.take_length]
          have hlk := HTQ.out.lookup ka kc (ks := ks) (HKS.out.but HBWQ.out (by simp)) HKB.out
          obtain ⟨la, lb, hlab⟩ : ∃ la lb, lookT K E ks = (la, lb) := ⟨_, _, rfl⟩
          rw [hlab] at hlk
          have HLK := Lib.hid hlk
          have HLAB := Lib.hid hlab
          obtain ⟨ba, bb, hbab⟩ : ∃ ba bb, bestF E ks Q = (ba, bb) := ⟨_, _, rfl⟩
          have HBAB := Lib.hid hbab
          rw [hbab]
          clear hlt hj hlk hlab hbab
          dsimp only
          go_wp2_with fail
          refine HLK.out.mono ?_
          rintro e w10 ⟨rfl, hb10⟩
          have HT10 := Lib.hid (HTQ.out.new hb10)
          have HBW10 : Hid (But [] w w10) := Lib.hid (HBWQ.out.trans hb10 (by simp))
          have HKS10 := Lib.hid (HKS.out.but HBW10.out (by simp))
          clear hb10 HLK
          have HNM := Lib.hid HT10.out.num
          have r1 : w10.cell? ⟨w.heap.size, 1, none⟩ = some (.int .i64 K) := by
            have h1 : w10.heap[w.heap.size]? = some (.cells #[.int .u8 k, .int .i64 K, .int .i64 V, .int .i64 N] 24) := (HB2.out.trans HT10.out.but (by simp)).heap HS.out (by simp)
            exact cl_of h1 1
          by_cases hkl : ks.length = K
          · have HKL := Lib.hid hkl
            have e1 : decide ((ks.length : Int) = K) = true := decide_eq_true (by omega)
            have e2 : decide (ks.length = K) = true := decide_eq_true hkl
            have e3 : ((ks.length : Int) != (K : Int)) = false := by rw [hkl]; simp
            have p1 : wrap64 ((K : Int) - 4) = (K : Int) - 4 := by rw [wrap64]; have := HNM.out; omega
            have p2 : wrap64 (8 * ((K : Int) - 4)) = 8 * ((K : Int) - 4) := by rw [wrap64]; have := HNM.out; omega
            have HBITS : Hid (∀ n, Calls Try.prog 16 #[.slice ka ks.length kc] (w10.drewN n) fun e w' => e = .returned (.int .i64 (leV (ks.take 4))) ∧ ∃ m, w' = (w10.drewN n).drewN m) := Lib.hid fun n => by
              obtain ⟨ad, rfl⟩ := sees_some HKS10.out (by have := HNM.out; omega)
              exact bitsl_c ad kc ks _ (HKS10.out.but ((But.refl [] _).drewN n) (by simp)) HKB.out (by have := HNM.out; omega)
            obtain ⟨m, hm⟩ : ∃ m, m = leV (ks.take 4) := ⟨_, rfl⟩
            rw [← hm] at HBITS
            have HM := Lib.hid hm
            clear hm hkl
            by_cases hlt : 8 * ((K : Int) - 4) < m
            · have q1 : decide (8 * ((K : Int) - 4) < m) = true := decide_eq_true hlt
              have hlb : lb = 2 := by
                have h := HLAB.out
                unfold lookT at h
                rw [if_pos (show KeyBad K ks from .inr (by rw [← HM.out]; exact hlt))] at h
                cases h
                rfl
              subst hlb
              clear hlt
              go_wp2_with fail
              go_quiet ((go_at_call 16; exact Calls.quiet_of (HBITS.out _)))
              go_wp2_with fail
              go_ret
              exact ⟨rfl, HBW10.out.drewN _⟩
            · have q1 : decide (8 * ((K : Int) - 4) < m) = false := decide_eq_false hlt
              have hok : KeyOk ks := (keyOk_of HNM.out.1 HKB.out (show ¬ KeyBad K ks by
                unfold KeyBad
                rw [← HM.out]
                exact fun h => h.elim (fun h => h HKL.out) hlt)).1
              have hbl := best_look HKQ.out hok HKL.out
              rw [HBAB.out, HLAB.out] at hbl
              clear hlt hok
              rcases hbl with ⟨h1, h2⟩ | ⟨h1, h2⟩
              · obtain ⟨rfl, rfl⟩ := Prod.mk.inj h2
                have q2 : decide (ba < 0) = true := decide_eq_true h1
                clear h1 h2
                go_wp2_with fail
                go_quiet ((go_at_call 16; exact Calls.quiet_of (HBITS.out _)))
                go_wp2_with fail
                go_ret
                exact ⟨rfl, HBW10.out.drewN _⟩
              · obtain ⟨e5, rfl⟩ := Prod.mk.inj h2
                dsimp only at e5 h1
                subst e5
                have q2 : decide (la < 0) = false := decide_eq_false (by omega)
                clear h1 h2
                go_wp2_with fail
                go_quiet ((go_at_call 16; exact Calls.quiet_of (HBITS.out _)))
                go_wp2_with fail
                go_ret
                exact ⟨rfl, HBW10.out.drewN _⟩
          · have e1 : decide ((ks.length : Int) = K) = false := decide_eq_false (by omega)
            have e2 : decide (ks.length = K) = false := decide_eq_false hkl
            have e3 : ((ks.length : Int) != (K : Int)) = true := by simp; omega
            have hlb : lb = 2 := by
              have h := HLAB.out
              unfold lookT at h
              rw [if_pos (show KeyBad K ks from .inl hkl)] at h
              cases h
              rfl
            subst hlb
            clear hkl
            go_wp2_with fail
            go_quiet (fail)
            go_wp2_with fail
            go_ret
            exact ⟨rfl, HBW10.out.drewN _⟩
theorem trieLongest_walk (w : World) (s : MSpec) (dv : Value) (l : List DeedA) (kv : Value) (ks : List Int) (hs : (Lit.int .u8 s.k).wf = true ∧ (Lit.int .i64 s.key).wf = true ∧ (Lit.int .i64 s.val).wf = true ∧ (Lit.int .i64 s.ent).wf = true)
    (hd : SeesDeeds w dv l) (hdl : l.length ≤ 3518437208780) (hk : Sees w kv (u8s ks) ∧ ByteL ks) (hkl : ks.length ≤ 140737488351232) :
    Calls Try.prog 3 #[s.v, dv, kv] w fun e w' => e = .returned (.bool true) ∧ Below w.heap.size w w' := by
  obtain ⟨a1, c1, e1, -⟩ := sees_shape hk.1
  obtain ⟨a3, c3, e3, h3⟩ := id hd
  rw [u8s_len] at e1
  subst e1 e3
  exact (trieLongest s.k s.key s.val s.ent a1 a3 c1 c3 ks l w hs.1 hk.1 hk.2 hd).mono fun _ _ ⟨he, hb⟩ => ⟨he, hb.below (Nat.le_refl _) (by simp)⟩
end Go.Proofs.Ytpoinhfkgnkedaa.M
