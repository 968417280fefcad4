/-
  lru: Update (printed by mklruf.py).
-/
import Derived.Test.YtifgfnifadmoaaaLruE
import Derived.Deep.RegionLaw
import Derived.BigRegion
namespace Go.Proofs.Ytifgfnifadmoaaa.M
open Go.RowKit
set_option linter.unusedVariables false
set_option linter.unusedSectionVars false
set_option linter.unusedSimpArgs false
theorem used_more {E : List Ent} {x p : Nat} {key : ByteArray} (i : Nat) : (if i = p then true else usedB E i) = usedB (E ++ [⟨x, key, p⟩]) i := by
  unfold usedB
  rw [List.any_append]
  by_cases h : i = p
  · subst h; simp
  · rw [if_neg h]
    have : (p == i) = false := by simpa using fun e => h e.symm
    simp [this]
section
variable {w : World} {P M U Rm : Nat} {g : Nat → Nat} {K V N : Nat} {E : List Ent} {rows : List (List Int)}
/-- A new link, its entry, its place. -/
theorem LruW.more (h : LruW w P M U Rm g K V N E rows) {x p : Nat} {key : ByteArray} (hx : w.heap.size ≤ x) (hkey : key.size = K) (hne : ∀ e ∈ E, e.key ≠ key) (hpN : p < N) (hpu : usedB E p = false) {w1 w2 w3 w4 : World} {ps : List (ByteArray × Value)} (hb1 : But [] w w1)
    (hx1 : w1.heap[x]? = some (.cells #[.string key, .int .i64 (p : Int), .pointer none, .pointer none] 59)) (hr : RingU P (x :: P :: bl E) w1 w2) (hc : Chain w2 P (bl E ++ [x])) (hb3 : But [M] w2 w3) (hm : MapS w3 M ps) (hp : ps.Perm ((E ++ [(⟨x, key, p⟩ : Ent)]).map fun e : Ent => (e.key, lp e.b))) (hb4 : But [U] w3 w4) (hu : UsedW w3 U N (usedB E) → UsedW w4 U N (fun i => if i = p then true else usedB E i)) : LruW w4 P M U Rm g K V N (E ++ [⟨x, key, p⟩]) rows := by
  have hA := h.apart
  have h1 := h.new hb1
  have hlt : ∀ y ∈ ownL P M U Rm g N E, y ≠ x := fun y hy e => by have := h.lt y hy; omega
  have oP : P ∈ ownL P M U Rm g N E := by simp [ownL]
  have oM : M ∈ ownL P M U Rm g N E := by simp [ownL]
  have oU : U ∈ ownL P M U Rm g N E := by simp [ownL]
  have oR : Rm ∈ ownL P M U Rm g N E := by simp [ownL]
  have oE : ∀ e ∈ E, e.b ∈ ownL P M U Rm g N E := fun e he => by simp only [ownL, List.mem_cons, List.mem_append]; exact .inr (.inr (.inr (.inr (.inl (mem_bl.2 ⟨e, he, rfl⟩)))))
  have oG : ∀ i, i < N → g i ∈ ownL P M U Rm g N E := fun i hi => by simp only [ownL, List.mem_cons, List.mem_append, List.mem_map, List.mem_range]; exact .inr (.inr (.inr (.inr (.inr ⟨i, hi, rfl⟩))))
  have hMr : M ∉ x :: P :: bl E := by simp only [List.mem_cons]; rintro (y | y | y); exact hlt M oM y; exact hA.pm y.symm; exact hA.me y
  have hUr : U ∉ x :: P :: bl E := by simp only [List.mem_cons]; rintro (y | y | y); exact hlt U oU y; exact hA.pu y.symm; exact hA.ue y
  have hRr : Rm ∉ x :: P :: bl E := by simp only [List.mem_cons]; rintro (y | y | y); exact hlt Rm oR y; exact hA.pr y.symm; exact hA.re y
  have hGr : ∀ i, i < N → g i ∉ x :: P :: bl E := fun i hi => by simp only [List.mem_cons]; rintro (y | y | y); exact hlt _ (oG i hi) y; exact hA.pg i hi y.symm; exact hA.eg i hi y
  have hbl : bl (E ++ [⟨x, key, p⟩]) = bl E ++ [x] := by simp [bl]
  have hxP : x ≠ P := fun e => hlt P oP e.symm
  have hxM : x ≠ M := fun e => hlt M oM e.symm
  have hxU : x ≠ U := fun e => hlt U oU e.symm
  refine ⟨((h1.head.ring hr).but hb3 (by simp; exact hA.pm)).but hb4 (by simp; exact hA.pu), ?_, fun y hy => ?_, ⟨ps, hm.but hb4 (by simp; exact hA.mu), hp⟩, ?_, ?_, ?_, h.ginj, ?_, ?_, h.bounds⟩
  · rw [hbl]
    have hin : ∀ y ∈ bl E ++ [x], y ≠ M ∧ y ≠ U := fun y hy => by
      rcases List.mem_append.1 hy with hy | hy
      · exact ⟨fun e => hA.me (e ▸ hy), fun e => hA.ue (e ▸ hy)⟩
      · simp only [List.mem_singleton] at hy
        subst hy
        exact ⟨hxM, hxU⟩
    exact (hc.but hb3 (by simp; exact hA.pm) (fun y hy => by simp; exact (hin y hy).1)).but hb4 (by simp; exact hA.pu) (fun y hy => by simp; exact (hin y hy).2)
  · rcases List.mem_append.1 hy with hy | hy
    · have hyb : y.b ∈ bl E := mem_bl.2 ⟨y, hy, rfl⟩
      exact (((h1.link y hy).ring hr (fun e => hA.pe (e ▸ hyb))).but hb3 (by simp; rintro e; exact hA.me (e ▸ hyb))).but hb4 (by simp; rintro e; exact hA.ue (e ▸ hyb))
    · simp only [List.mem_singleton] at hy
      subst hy
      have hl : LinkW w1 ⟨x, key, p⟩ := ⟨_, hx1, rfl, rfl, rfl⟩
      exact ((hl.ring hr hxP).but hb3 (by simp; exact hxM)).but hb4 (by simp; exact hxU)
  · exact (hu ((h1.used.but hr.1 hUr).but hb3 (by simp; exact hA.mu.symm))).congr (fun i _ => used_more i)
  · exact ((h1.room.but hr.1 hRr).but hb3 (by simp; exact hA.mr.symm)).but hb4 (by simp; exact hA.ur.symm)
  · exact ((h1.rowsw.but hr.1 hGr).but hb3 (fun i hi => by simp; exact (hA.mg i hi).symm)).but hb4 (fun i hi => by simp; exact (hA.ug i hi).symm)
  · refine ⟨?_, fun y hy => ?_⟩
    · rw [List.map_append, List.map_cons, List.map_nil]
      refine List.nodup_append.2 ⟨h.keys.1, by simp, fun a ha c hc e => ?_⟩
      simp only [List.mem_singleton] at hc
      obtain ⟨y, hy, rfl⟩ := List.mem_map.1 ha
      exact hne y hy (by rw [e, hc])
    · rcases List.mem_append.1 hy with hy | hy
      · exact h.keys.2 y hy
      · simp only [List.mem_singleton] at hy
        subst hy
        exact hkey
  · refine ⟨?_, fun y hy => ?_⟩
    · rw [List.map_append, List.map_cons, List.map_nil]
      refine List.nodup_append.2 ⟨h.places.1, by simp, fun a ha c hc e => ?_⟩
      simp only [List.mem_singleton] at hc
      obtain ⟨y, hy, rfl⟩ := List.mem_map.1 ha
      have : usedB E p = true := usedB_iff.2 ⟨y, hy, by rw [e, hc]⟩
      rw [hpu] at this
      cases this
    · rcases List.mem_append.1 hy with hy | hy
      · exact h.places.2 y hy
      · simp only [List.mem_singleton] at hy
        subst hy
        exact hpN
theorem LruW.update_len (h : LruW w P M U Rm g K V N E rows) {n : Nat} (hn : n ≠ K) (a : Option Addr) (c : Nat) (v f : Value) : Calls Try.prog 10 #[.pointer (some ⟨P, 0, none⟩), .slice a n c, v, f] w fun e w' => e = .returned (.int .i64 2) ∧ w = w' := by
  have HC := Lib.hid (check_c P M K n a c w h.h8 h.h1)
  rw [lenE_ne hn] at HC
  clear h hn
  go_enter Try.func10, Try.ntmps10
  go_wp2_with fail
  refine HC.out.mono ?_
  rintro e w1 ⟨rfl, rfl⟩
  go_wp2_with fail
  go_ret
  exact ⟨rfl, rfl⟩
set_option maxRecDepth 100000 in
set_option maxHeartbeats 4000000 in
theorem LruW.update_val_hit (h : LruW w P M U Rm g K V N E rows) (a : Option Addr) (c : Nat) {ks : List Int} (hs : Sees w (.slice a K c) (u8s ks)) {k : Nat} {e : Ent} (hk : E[k]? = some e) (hke : e.key = strOfNums ks) (vb : Option Addr) (m vc : Nat) (hm : m ≠ V) (f : Int) :
    Calls Try.prog 10 #[.pointer (some ⟨P, 0, none⟩), .slice a K c, .slice vb m vc, .int .u64 f] w fun r w' => r = .returned (.int .i64 2) ∧ But [] w w' := by
  have HC := Lib.hid (check_c P M K K a c w h.h8 h.h1)
  rw [lenE_eq] at HC
  have hd : But [] w w.drew := (But.refl [] w).drew
  have HD := Lib.hid (h.new hd)
  have hcv := conv_at (hs.but hd (by simp))
  have hlk := (h.new hd).find hk
  have a8 := h.h8
  rw [← hke] at hcv
  have a2 := HD.out.h2
  have hmV : ((m : Int) == (V : Int)) = false := by simpa using fun e => hm (by omega)
  obtain ⟨x, key, p⟩ := e
  simp only at hlk hcv
  clear h hs hk hke hd
  clear hm
  go_enter Try.func10, Try.ntmps10
  go_wp2_with fail
  refine HC.out.mono ?_
  rintro e w1 ⟨rfl, rfl⟩
  go_upto_region 4 with fail
  refine wp_region_tail9 11 (by kernel_rfl) (by kernel_rfl) ?_
  simp only [List.take_succ_cons, List.take_zero, List.drop_succ_cons, List.drop_zero]
  repeat still_step
  refine wpStill_nil ?_
  clear hlk hcv a8
  go_wp2_with fail
  go_ret
  exact ⟨rfl, (But.refl [] _).drew⟩
set_option maxRecDepth 100000 in
set_option maxHeartbeats 4000000 in
theorem LruW.update_flag_hit (h : LruW w P M U Rm g K V N E rows) (a : Option Addr) (c : Nat) {ks : List Int} (hs : Sees w (.slice a K c) (u8s ks)) {k : Nat} {e : Ent} (hk : E[k]? = some e) (hke : e.key = strOfNums ks) (vb : Option Addr) (vc : Nat) (f : Int) (hf : 2 < f) :
    Calls Try.prog 10 #[.pointer (some ⟨P, 0, none⟩), .slice a K c, .slice vb V vc, .int .u64 f] w fun r w' => r = .returned (.int .i64 2) ∧ But [] w w' := by
  have HC := Lib.hid (check_c P M K K a c w h.h8 h.h1)
  rw [lenE_eq] at HC
  have hd : But [] w w.drew := (But.refl [] w).drew
  have HD := Lib.hid (h.new hd)
  have hcv := conv_at (hs.but hd (by simp))
  have hlk := (h.new hd).find hk
  have a8 := h.h8
  rw [← hke] at hcv
  have a2 := HD.out.h2
  obtain ⟨x, key, p⟩ := e
  simp only at hlk hcv
  clear h hs hk hke hd
  go_enter Try.func10, Try.ntmps10
  go_wp2_with fail
  refine HC.out.mono ?_
  rintro e w1 ⟨rfl, rfl⟩
  go_upto_region 4 with fail
  refine wp_region_tail9 11 (by kernel_rfl) (by kernel_rfl) ?_
  simp only [List.take_succ_cons, List.take_zero, List.drop_succ_cons, List.drop_zero]
  repeat still_step
  refine wpStill_nil ?_
  clear hlk hcv a8
  go_wp2_with fail
  go_ret
  exact ⟨rfl, (But.refl [] _).drew⟩
set_option maxRecDepth 100000 in
set_option maxHeartbeats 4000000 in
theorem LruW.update_val_miss (h : LruW w P M U Rm g K V N E rows) (a : Option Addr) (c : Nat) {ks : List Int} (hs : Sees w (.slice a K c) (u8s ks)) (hl : ks.length = K) (hne : ∀ e ∈ E, e.key ≠ strOfNums ks) (vb : Option Addr) (m vc : Nat) (hm : m ≠ V) (f : Int) :
    Calls Try.prog 10 #[.pointer (some ⟨P, 0, none⟩), .slice a K c, .slice vb m vc, .int .u64 f] w fun r w' => r = .returned (.int .i64 2) ∧ But [] w w' := by
  have HC := Lib.hid (check_c P M K K a c w h.h8 h.h1)
  rw [lenE_eq] at HC
  have hd : But [] w w.drew := (But.refl [] w).drew
  have HD := Lib.hid (h.new hd)
  have hcv := conv_at (hs.but hd (by simp))
  have hlk := (h.new hd).miss (n := strOfNums ks) (by rw [str_size, hl]; have := h.bounds; unfold maxLen; omega) hne
  have a8 := h.h8
  have a2 := HD.out.h2
  have hmV : ((m : Int) == (V : Int)) = false := by simpa using fun e => hm (by omega)
  obtain ⟨key, hkey⟩ : ∃ k, k = strOfNums ks := ⟨_, rfl⟩
  rw [← hkey] at hcv hlk
  clear h hs hl hne hd hkey
  clear hm
  go_enter Try.func10, Try.ntmps10
  go_wp2_with fail
  refine HC.out.mono ?_
  rintro e w1 ⟨rfl, rfl⟩
  go_upto_region 4 with fail
  refine wp_region_tail9 11 (by kernel_rfl) (by kernel_rfl) ?_
  simp only [List.take_succ_cons, List.take_zero, List.drop_succ_cons, List.drop_zero]
  repeat still_step
  refine wpStill_nil ?_
  clear hlk hcv a8
  go_wp2_with fail
  go_ret
  exact ⟨rfl, (But.refl [] _).drew⟩
set_option maxRecDepth 100000 in
set_option maxHeartbeats 4000000 in
theorem LruW.update_flag_miss (h : LruW w P M U Rm g K V N E rows) (a : Option Addr) (c : Nat) {ks : List Int} (hs : Sees w (.slice a K c) (u8s ks)) (hl : ks.length = K) (hne : ∀ e ∈ E, e.key ≠ strOfNums ks) (vb : Option Addr) (vc : Nat) (f : Int) (hf : 2 < f) :
    Calls Try.prog 10 #[.pointer (some ⟨P, 0, none⟩), .slice a K c, .slice vb V vc, .int .u64 f] w fun r w' => r = .returned (.int .i64 2) ∧ But [] w w' := by
  have HC := Lib.hid (check_c P M K K a c w h.h8 h.h1)
  rw [lenE_eq] at HC
  have hd : But [] w w.drew := (But.refl [] w).drew
  have HD := Lib.hid (h.new hd)
  have hcv := conv_at (hs.but hd (by simp))
  have hlk := (h.new hd).miss (n := strOfNums ks) (by rw [str_size, hl]; have := h.bounds; unfold maxLen; omega) hne
  have a8 := h.h8
  have a2 := HD.out.h2
  obtain ⟨key, hkey⟩ : ∃ k, k = strOfNums ks := ⟨_, rfl⟩
  rw [← hkey] at hcv hlk
  clear h hs hl hne hd hkey
  go_enter Try.func10, Try.ntmps10
  go_wp2_with fail
  refine HC.out.mono ?_
  rintro e w1 ⟨rfl, rfl⟩
  go_upto_region 4 with fail
  refine wp_region_tail9 11 (by kernel_rfl) (by kernel_rfl) ?_
  simp only [List.take_succ_cons, List.take_zero, List.drop_succ_cons, List.drop_zero]
  repeat still_step
  refine wpStill_nil ?_
  clear hlk hcv a8
  go_wp2_with fail
  go_ret
  exact ⟨rfl, (But.refl [] _).drew⟩
set_option maxRecDepth 100000 in
set_option maxHeartbeats 4000000 in
theorem LruW.update_there (h : LruW w P M U Rm g K V N E rows) (a : Option Addr) (c : Nat) {ks : List Int} (hs : Sees w (.slice a K c) (u8s ks)) {k : Nat} {e : Ent} (hk : E[k]? = some e) (hke : e.key = strOfNums ks) (vb : Option Addr) (vc : Nat) :
    Calls Try.prog 10 #[.pointer (some ⟨P, 0, none⟩), .slice a K c, .slice vb V vc, .int .u64 1] w fun r w' => r = .returned (.int .i64 7) ∧ But [] w w' := by
  have HC := Lib.hid (check_c P M K K a c w h.h8 h.h1)
  rw [lenE_eq] at HC
  have hd : But [] w w.drew := (But.refl [] w).drew
  have HD := Lib.hid (h.new hd)
  have hcv := conv_at (hs.but hd (by simp))
  have hlk := (h.new hd).find hk
  have a8 := h.h8
  rw [← hke] at hcv
  have a2 := HD.out.h2
  obtain ⟨x, key, p⟩ := e
  simp only at hlk hcv
  clear h hs hk hke hd
  go_enter Try.func10, Try.ntmps10
  go_wp2_with fail
  refine HC.out.mono ?_
  rintro e w1 ⟨rfl, rfl⟩
  go_upto_region 4 with fail
  refine wp_region_tail9 11 (by kernel_rfl) (by kernel_rfl) ?_
  simp only [List.take_succ_cons, List.take_zero, List.drop_succ_cons, List.drop_zero]
  repeat still_step
  refine wpStill_nil ?_
  clear hlk hcv a8
  go_wp2_with fail
  go_ret
  exact ⟨rfl, (But.refl [] _).drew⟩
set_option maxRecDepth 100000 in
set_option maxHeartbeats 4000000 in
theorem LruW.update_none (h : LruW w P M U Rm g K V N E rows) (a : Option Addr) (c : Nat) {ks : List Int} (hs : Sees w (.slice a K c) (u8s ks)) (hl : ks.length = K) (hne : ∀ e ∈ E, e.key ≠ strOfNums ks) (vb : Option Addr) (vc : Nat) :
    Calls Try.prog 10 #[.pointer (some ⟨P, 0, none⟩), .slice a K c, .slice vb V vc, .int .u64 2] w fun r w' => r = .returned (.int .i64 6) ∧ But [] w w' := by
  have HC := Lib.hid (check_c P M K K a c w h.h8 h.h1)
  rw [lenE_eq] at HC
  have hd : But [] w w.drew := (But.refl [] w).drew
  have HD := Lib.hid (h.new hd)
  have hcv := conv_at (hs.but hd (by simp))
  have hlk := (h.new hd).miss (n := strOfNums ks) (by rw [str_size, hl]; have := h.bounds; unfold maxLen; omega) hne
  have a8 := h.h8
  have a2 := HD.out.h2
  obtain ⟨key, hkey⟩ : ∃ k, k = strOfNums ks := ⟨_, rfl⟩
  rw [← hkey] at hcv hlk
  clear h hs hl hne hd hkey
  go_enter Try.func10, Try.ntmps10
  go_wp2_with fail
  refine HC.out.mono ?_
  rintro e w1 ⟨rfl, rfl⟩
  go_upto_region 4 with fail
  refine wp_region_tail9 11 (by kernel_rfl) (by kernel_rfl) ?_
  simp only [List.take_succ_cons, List.take_zero, List.drop_succ_cons, List.drop_zero]
  repeat still_step
  refine wpStill_nil ?_
  clear hlk hcv a8
  go_wp2_with fail
  go_ret
  exact ⟨rfl, (But.refl [] _).drew⟩
set_option maxRecDepth 100000 in
set_option maxHeartbeats 4000000 in
theorem LruW.update_hit (h : LruW w P M U Rm g K V N E rows) (a : Option Addr) (c : Nat) {ks : List Int} (hs : Sees w (.slice a K c) (u8s ks)) {k : Nat} {e : Ent} (hk : E[k]? = some e) (hke : e.key = strOfNums ks) (vb : Option Addr) (vc : Nat) {vs : List Int} (hvs : Sees w (.slice vb V vc) (u8s vs)) (hvl : vs.length = V) (hvb : ByteL vs) (hvo : ∀ b, (Value.slice vb V vc).ownBlock = some b → b ∉ ownL P M U Rm g N E) (f : Int) (hf : f = 0 ∨ f = 2) :
    Calls Try.prog 10 #[.pointer (some ⟨P, 0, none⟩), .slice a K c, .slice vb V vc, .int .u64 f] w fun r w' => r = .returned (.int .i64 0) ∧ LruW w' P M U Rm g K V N (E.eraseIdx k ++ [e]) (rows.set e.place vs) ∧ But (ownL P M U Rm g N E) w w' := by
  have HC := Lib.hid (check_c P M K K a c w h.h8 h.h1)
  rw [lenE_eq] at HC
  have hd : But [] w w.drew := (But.refl [] w).drew
  have HD := Lib.hid (h.new hd)
  have hcv := conv_at (hs.but hd (by simp))
  have hlk := (h.new hd).find hk
  have a8 := h.h8
  rw [← hke] at hcv
  have a2 := HD.out.h2
  have HY := Lib.hid (HD.out.young hk)
  have hpN := h.places.2 e (List.mem_of_getElem? hk)
  have HPN := Lib.hid hpN
  have HE : Hid ((E.eraseIdx k ++ [e])[E.length - 1]? = some e) := Lib.hid (by
    have hl := (List.getElem?_eq_some_iff.1 hk).1
    rw [List.getElem?_append_right (by rw [List.length_eraseIdx, if_pos hl]; omega), List.length_eraseIdx, if_pos hl, Nat.sub_self]
    rfl)
  have HVS := Lib.hid (hvs.but hd (by simp))
  have HVO := Lib.hid hvo
  have HVL := Lib.hid hvl
  have HVB := Lib.hid hvb
  obtain ⟨x, key, p⟩ := e
  simp only at hlk hcv HY HPN hpN ⊢
  have q0 : (0 : Int) ≤ p := by omega
  have q1 : (p : Int) < N := by omega
  clear h hs hk hke hd hvs hvo hvl hvb hpN
  rcases hf with rfl | rfl
  all_goals
    go_enter Try.func10, Try.ntmps10
    go_wp2_with fail
    refine HC.out.mono ?_
    rintro e w1 ⟨rfl, rfl⟩
    go_upto_region 4 with fail
    refine wp_region_tail9 11 (by kernel_rfl) (by kernel_rfl) ?_
    simp only [List.take_succ_cons, List.take_zero, List.drop_succ_cons, List.drop_zero]
    repeat still_step
    refine wpStill_nil ?_
    clear hlk hcv a8
    go_wp2_with fail
    refine HY.out.mono ?_
    rintro r w2 ⟨rfl, h2, hb2⟩
    have HH2 := Lib.hid h2
    have HB2 : Hid (But (ownL P M U Rm g N E) w w2) := Lib.hid ((((But.refl [] w).drew).mono (by simp)).trans (hb2.mono (fun y hy => by
      rcases List.mem_cons.1 hy with rfl | hy
      · simp [ownL]
      · simp [ownL, hy])) (fun y hy => .inl hy))
    have c1 := (h2.new ((But.refl [] w2).drew)).kp HE.out
    simp only at c1
    obtain ⟨old, hold⟩ : ∃ old, rows[p]? = some old := ⟨_, List.getElem?_eq_getElem (by rw [h2.rowsw.1]; exact HPN.out)⟩
    obtain ⟨hg, hol, hob⟩ := (h2.new ((But.refl [] w2).drew)).rowsw.2 p old hold
    have HG := Lib.hid hg
    have HV2 := Lib.hid ((HVS.out.but hb2 (fun b hb hm => HVO.out b hb (by
      rcases List.mem_cons.1 hm with rfl | hm
      · simp [ownL]
      · simp [ownL, hm]))).but ((But.refl [] w2).drew) (by simp))
    have HLN : Hid ((u8s vs).length = Nat.min V V) := Lib.hid (by rw [u8s_len, HVL.out]; exact (Nat.min_eq_left (Nat.le_refl _)).symm)
    have HPOS : Hid (0 < (u8s vs).length → ∃ ad, vb = some ad ∧ ∀ j v, (u8s vs)[j]? = some v → w2.drew.cell? (ad.add j) = some v) := Lib.hid fun h0 => sees_src HV2.out h0
    have HFIT : Hid (0 + (u8s vs).length ≤ (u8s old).length) := Lib.hid (by rw [u8s_len, u8s_len, HVL.out, hol]; omega)
    have HROW : Hid (∀ w', w'.heap[g p]? = some (.cells (splice (u8s old) 0 (u8s vs)).toArray 5 (0, 0)) → But [g p] w2.drew w' → LruW w' P M U Rm g K V N (E.eraseIdx k ++ [⟨x, key, p⟩]) (rows.set p vs)) := Lib.hid fun w' hg' hb' => by
      rw [setAt_u8s, setAt_all (by rw [HVL.out, hol])] at hg'
      exact (HH2.out.new ((But.refl [] w2).drew)).rowset HPN.out hb' hg' HVL.out HVB.out
    have a10 := (h2.new ((But.refl [] w2).drew)).h10
    have a11 := (h2.new ((But.refl [] w2).drew)).rm HPN.out
    clear h2 hb2 hold hg hol hob
    go_upto_region 17 with fail
    refine wp_region_tail9 12 (by kernel_rfl) (by kernel_rfl) ?_
    simp only [List.take_succ_cons, List.take_zero, List.drop_succ_cons, List.drop_zero]
    repeat still_step
    refine wpStill_nil ?_
    go_wp2_with ((with_reducible refine (show wpList _ _ _ (⟨some 103, _, _, _, _, _⟩ :: _) _ _ from ?_)); refine wpList_copy_but rfl (.tmp 101) (.tmp 102) 25 25 rfl 5 Try.underlying25 (by kernel_rfl) (some ⟨g p, 0, none⟩) vb V V V vc rfl rfl (g p) 0 (u8s old) 5 HG.out (u8s vs) HLN.out (fun h => ⟨rfl, HPOS.out h⟩) HFIT.out (u8s_one vs) ?_; intro w5 hg5 hb5; have HF := Lib.hid (HROW.out w5 hg5 hb5); have HB := Lib.hid hb5; clear hg5 hb5)
    go_ret
    exact ⟨rfl, HF.out, (HB2.out.trans ((But.refl [] w2).drew) (by simp)).trans HB.out (fun y hy => .inl (by simp at hy; subst hy; simp only [ownL, List.mem_cons, List.mem_append, List.mem_map, List.mem_range]; exact .inr (.inr (.inr (.inr (.inr ⟨p, HPN.out, rfl⟩))))))⟩
set_option maxRecDepth 100000 in
set_option maxHeartbeats 4000000 in
theorem LruW.update_new (h : LruW w P M U Rm g K V N E rows) (a : Option Addr) (c : Nat) {ks : List Int} (hs : Sees w (.slice a K c) (u8s ks)) (hl : ks.length = K) (hne : ∀ e ∈ E, e.key ≠ strOfNums ks) (vb : Option Addr) (vc : Nat) {vs : List Int} (hvs : Sees w (.slice vb V vc) (u8s vs)) (hvl : vs.length = V) (hvb : ByteL vs) (hvo : ∀ b, (Value.slice vb V vc).ownBlock = some b → b ∉ ownL P M U Rm g N E) (hko : ∀ b, (Value.slice a K c).ownBlock = some b → b ∉ ownL P M U Rm g N E) (f : Int) (hf : f = 0 ∨ f = 1) :
    Calls Try.prog 10 #[.pointer (some ⟨P, 0, none⟩), .slice a K c, .slice vb V vc, .int .u64 f] w fun r w' => ∃ x p : Nat, r = .returned (.int .i64 0) ∧ Least (roomy E N) N p ∧ w.heap.size ≤ x ∧ LruW w' P M U Rm g K V N (roomy E N ++ [⟨x, strOfNums ks, p⟩]) (rows.set p vs) ∧ But (ownL P M U Rm g N E) w w' := by
  have HC := Lib.hid (check_c P M K K a c w h.h8 h.h1)
  rw [lenE_eq] at HC
  have hd : But [] w w.drew := (But.refl [] w).drew
  have HD := Lib.hid (h.new hd)
  have hcv := conv_at (hs.but hd (by simp))
  have hlk := (h.new hd).miss (n := strOfNums ks) (by rw [str_size, hl]; have := h.bounds; unfold maxLen; omega) hne
  have a8 := h.h8
  have a2 := HD.out.h2
  have hdd : But [] w w.drew.drew := hd.drew
  have HD2 := Lib.hid (h.new hdd)
  have HFR := Lib.hid ((h.new hdd).free)
  have HVS := Lib.hid (hvs.but hdd (by simp))
  have HVO := Lib.hid hvo
  have HVL := Lib.hid hvl
  have HVB := Lib.hid hvb
  have HKZ : Hid ((strOfNums ks).size = K) := Lib.hid (by rw [str_size, hl])
  have HNE := Lib.hid hne
  have hown : ∀ y ∈ P :: M :: U :: bl E, y ∈ ownL P M U Rm g N E := fun y hy => by
    simp only [ownL, List.mem_cons, List.mem_append] at hy ⊢
    rcases hy with hy | hy | hy | hy
    · exact .inl hy
    · exact .inr (.inl hy)
    · exact .inr (.inr (.inl hy))
    · exact .inr (.inr (.inr (.inr (.inl hy))))
  have HOWN := Lib.hid hown
  have HBV : Hid (∀ wz, But (ownL P M U Rm g N E) w wz → But (ownL P M U Rm g N E) w.drew.drew wz) := Lib.hid fun wz hb => ⟨hb.os, hb.tape, hb.output, hb.size, hb.block⟩
  have HCV : Hid (∀ wx, But (P :: M :: U :: bl E) w.drew.drew wx → (convert 25 9 (.slice a K c)).run Try.prog wx = .ok (.string (strOfNums ks)) wx) := Lib.hid fun wx hb => conv_at ((hs.but hdd (by simp)).but hb (fun b hb' hm => hko b hb' (hown b hm)))
  have hcv3 := HCV.out _ (But.refl _ _)
  obtain ⟨key, hkey⟩ : ∃ k, k = strOfNums ks := ⟨_, rfl⟩
  rw [← hkey] at hcv hlk hcv3 HCV HKZ HNE ⊢
  clear h hs hl hne hd hdd hkey hvs hvl hvb hvo hko hown
  rcases hf with rfl | rfl
  all_goals
    go_enter Try.func10, Try.ntmps10
    go_wp2_with fail
    refine HC.out.mono ?_
    rintro e w1 ⟨rfl, rfl⟩
    go_upto_region 4 with fail
    refine wp_region_tail9 11 (by kernel_rfl) (by kernel_rfl) ?_
    simp only [List.take_succ_cons, List.take_zero, List.drop_succ_cons, List.drop_zero]
    repeat still_step
    refine wpStill_nil ?_
    clear hlk hcv a8
    go_upto_region 5 with fail
    clear a2
    go_region_with (go_at_call 34; refine HFR.out.mono ?_; rintro r w2 ⟨p, rfl, hp, h2, hb2⟩; have H2 := Lib.hid h2; have HP := Lib.hid hp; have HB2 := Lib.hid hb2; have hcv2 := HCV.out w2 hb2; clear hp h2 hb2)
    all_goals
      obtain ⟨w3, hw3⟩ : ∃ w3, w3 = w2.alloc (.cells #[.string key, .int .i64 (p : Int), .pointer none, .pointer none] 59) := ⟨_, rfl⟩
      rw [← hw3]
      have hx3 : w3.heap[w2.heap.size]? = some (.cells #[.string key, .int .i64 (p : Int), .pointer none, .pointer none] 59) := by rw [hw3]; exact al_at _ _
      have hb3 : But [] w2 w3 := by rw [hw3]; exact (But.refl _ _).alloc _
      have hlt := H2.out.lt
      obtain ⟨x, hx⟩ : ∃ x, x = w2.heap.size := ⟨_, rfl⟩
      rw [← hx] at hx3 hlt ⊢
      have hin : ∀ y ∈ P :: bl (roomy E N), y ∈ ownL P M U Rm g N (roomy E N) := fun y hy => by
        simp only [ownL, List.mem_cons, List.mem_append] at hy ⊢
        rcases hy with hy | hy
        · exact .inl hy
        · exact .inr (.inr (.inr (.inr (.inl hy))))
      have hnx : x ∉ P :: bl (roomy E N) := fun hm => by have := hlt x (hin x hm); omega
      have hc3 := (H2.out.new hb3).chain
      have c2x := cell1_of hx3 (show 2 < _ from by simp)
      have c3x := cell1_of hx3 (show 3 < _ from by simp)
      have HXW : Hid (w2.heap.size ≤ x) := Lib.hid (by omega)
      have HPUT := Lib.hid (put_chain hc3 hnx c2x c3x)
      have HC4 := Lib.hid (hc3.push hnx c2x c3x)
      have HR4 := Lib.hid (put_ring (w := w3) (l := bl (roomy E N)) (L := x :: P :: bl (roomy E N)) (x := x) H2.out.apart.pe (fun e => hnx (by rw [e]; exact List.mem_cons_self)) (fun y hy => List.mem_cons_of_mem _ hy) List.mem_cons_self)
      have HX3 := Lib.hid hx3
      have HB3 := Lib.hid hb3
      have HXP : Hid (x ≠ P ∧ x ≠ M ∧ x ≠ U) := Lib.hid ⟨fun e => by have := hlt P (by simp [ownL]); omega, fun e => by have := hlt M (by simp [ownL]); omega, fun e => by have := hlt U (by simp [ownL]); omega⟩
      clear hw3 hx3 hb3 hlt hx hin hnx hc3 c2x c3x hcv2 hcv3
      go_wp2_with fail
      refine HPUT.out.mono ?_
      rintro r w4 ⟨rfl, hw4⟩
      rw [← hw4] at HC4 HR4
      obtain ⟨CP, k1, k2, _, _, _, k8, k9, _⟩ := (H2.out.new HB3.out).head.ring HR4.out
      obtain ⟨CL, l1, l2, l3, l4⟩ := (show LinkW w3 ⟨x, key, p⟩ from ⟨_, HX3.out, rfl, rfl, rfl⟩).ring HR4.out HXP.out.1
      have b8 : w4.cell? ⟨P, 8, none⟩ = some (.map (some M)) := by rw [cl_of k1]; exact k8
      have b9 : w4.cell? ⟨P, 9, none⟩ = some (.slice (some ⟨U, 0, none⟩) N N) := by rw [cl_of k1]; exact k9
      have b0 : w4.cell? ⟨x, 0, none⟩ = some (.string key) := by rw [cl_of l1]; exact l3
      have b1 : w4.cell? ⟨x, 1, none⟩ = some (.int .i64 p) := by rw [cl_of l1]; exact l4
      obtain ⟨ps, hm, hpp⟩ := H2.out.map
      obtain ⟨hnd, hsz⟩ := H2.out.maps hpp
      have hA := H2.out.apart
      have hMn : M ∉ x :: P :: bl (roomy E N) := by simp only [List.mem_cons]; rintro (y | y | y); exact HXP.out.2.1 y.symm; exact hA.pm y.symm; exact hA.me y
      have hm4 : MapS w4.drew M ps := ((hm.but HB3.out (by simp)).but HR4.out.1 hMn).but ((But.refl [] w4).drew) (by simp)
      have hsub : ∀ e ∈ roomy E N, e ∈ E := fun e he => by
        unfold roomy at he
        split at he
        · exact List.mem_of_mem_eraseIdx he
        · exact he
      obtain ⟨st, w5, hme, hb5, hst⟩ := mapS_entry (P := Try.prog) Try.underlying9 Try.underlying62 hm4 hsz (n := key) (by rw [HKZ.out]; have := H2.out.bounds; unfold maxLen; omega) zero_p (fun q hq => by
        obtain ⟨e, he, rfl⟩ := List.mem_map.1 (hpp.mem_iff.1 hq)
        exact HNE.out e (hsub e he))
      obtain ⟨w6, hes, hb6, hm6⟩ := hst w5 (.pointer (some ⟨x, 0, none⟩)) rfl
      have HB46 : Hid (But [M] w4 w6) := Lib.hid ((((But.refl [] w4).drew.mono (by simp)).trans hb5 (fun y hy => .inl hy)).trans hb6 (fun y hy => .inl hy))
      have HM6 := Lib.hid hm6
      have HPP : Hid ((ps ++ [(key, Value.pointer (some ⟨x, 0, none⟩))]).Perm ((roomy E N ++ [(⟨x, key, p⟩ : Ent)]).map fun e : Ent => (e.key, lp e.b))) := Lib.hid (by
        rw [List.map_append]
        exact hpp.append_right _)
      have hpN := HP.out.1
      have HU6 : Hid (UsedW w6 U N (usedB (roomy E N))) := Lib.hid (((H2.out.used.but HB3.out (by simp)).but HR4.out.1 (by simp only [List.mem_cons]; rintro (y | y | y); exact HXP.out.2.2 y.symm; exact hA.pu y.symm; exact hA.ue y)).but HB46.out (by simp; exact hA.mu.symm))
      have c6 : Cell1 w6 U p := by obtain ⟨C, h1, h2, _⟩ := HU6.out; exact ⟨C, _, h1, by rw [h2]; exact hpN⟩
      obtain ⟨vu, d1⟩ := c6.cell
      have d2 := c6.frozen
      have HF : Hid (LruW (w6.setCell ⟨U, p, none⟩ (.bool true)) P M U Rm g K V N (roomy E N ++ [⟨x, key, p⟩]) rows) := Lib.hid (H2.out.more HXW.out HKZ.out (fun e he => HNE.out e (hsub e he)) HP.out.1 HP.out.2.1 HB3.out HX3.out HR4.out HC4.out HB46.out HM6.out HPP.out ((But.refl [U] w6).setCell (.inl (by simp)) _) (fun hu => hu.set p true))
      have q0 : (0 : Int) ≤ p := by omega
      have q1 : (p : Int) < N := by omega
      have HPN := Lib.hid hpN
      clear hw4 k1 k2 k8 k9 l1 l2 l3 l4 hm hpp hnd hsz hA hMn hm4 hsub hb5 hst hb6 hm6 hpN c6
      go_upto_region 7 with fail
      go_region
      all_goals
        clear hme hes b0 b1 b8 b9 d1 d2
        obtain ⟨w7, hw7⟩ : ∃ w7, w7 = w6.setCell ⟨U, p, none⟩ (.bool true) := ⟨_, rfl⟩
        have HB7 : Hid (But (ownL P M U Rm g N E) w w7) := Lib.hid (by
          have hrm : ∀ y ∈ bl (roomy E N), y ∈ bl E := fun y hy => by
            obtain ⟨e, he, rfl⟩ := mem_bl.1 hy
            refine mem_bl.2 ⟨e, ?_, rfl⟩
            unfold roomy at he
            split at he
            · exact List.mem_of_mem_eraseIdx he
            · exact he
          have e1 : But (ownL P M U Rm g N E) w w2 := ((((But.refl [] w).drew).drew).mono (by simp)).trans (HB2.out.mono HOWN.out) (fun y hy => .inl hy)
          have e2 := (e1.trans HB3.out (by simp)).trans HR4.out.1 (fun y hy => by
            rcases List.mem_cons.1 hy with rfl | hy
            · exact .inr (Nat.le_trans e1.size HXW.out)
            · refine .inl (HOWN.out y ?_)
              rcases List.mem_cons.1 hy with rfl | hy
              · exact List.mem_cons_self
              · simp [hrm y hy])
          have e3 := e2.trans HB46.out (fun y hy => .inl (by simp at hy; subst hy; simp [ownL]))
          rw [hw7]
          exact e3.setCell (.inl (by simp [ownL])) _)
        have HSZ : Hid (w.heap.size ≤ x) := Lib.hid (Nat.le_trans (show w.heap.size ≤ w2.heap.size from HB2.out.size) HXW.out)
        rw [← hw7] at HF ⊢
        have HFD := Lib.hid (HF.out.new ((But.refl [] w7).drew))
        obtain ⟨old, hold⟩ : ∃ old, rows[p]? = some old := ⟨_, List.getElem?_eq_getElem (by rw [HF.out.rowsw.1]; exact HPN.out)⟩
        obtain ⟨hg, hol, hob⟩ := HFD.out.rowsw.2 p old hold
        have HG := Lib.hid hg
        have HV2 := Lib.hid (((HVS.out.but (HBV.out w7 HB7.out) (fun b hb => HVO.out b hb)).but ((But.refl [] w7).drew) (by simp)))
        have HLN : Hid ((u8s vs).length = Nat.min V V) := Lib.hid (by rw [u8s_len, HVL.out]; exact (Nat.min_eq_left (Nat.le_refl _)).symm)
        have HPOS : Hid (0 < (u8s vs).length → ∃ ad, vb = some ad ∧ ∀ j v, (u8s vs)[j]? = some v → w7.drew.cell? (ad.add j) = some v) := Lib.hid fun h0 => sees_src HV2.out h0
        have HFIT : Hid (0 + (u8s vs).length ≤ (u8s old).length) := Lib.hid (by rw [u8s_len, u8s_len, HVL.out, hol]; omega)
        have HROW : Hid (∀ w', w'.heap[g p]? = some (.cells (splice (u8s old) 0 (u8s vs)).toArray 5 (0, 0)) → But [g p] w7.drew w' → LruW w' P M U Rm g K V N (roomy E N ++ [⟨x, key, p⟩]) (rows.set p vs)) := Lib.hid fun w' hg' hb' => by
          rw [setAt_u8s, setAt_all (by rw [HVL.out, hol])] at hg'
          exact HFD.out.rowset HPN.out hb' hg' HVL.out HVB.out
        have a10 := HFD.out.h10
        have a11 := HFD.out.rm HPN.out
        have c1 : w7.drew.cell? ⟨x, 1, none⟩ = some (.int .i64 p) := by
          have h9 := HFD.out.kp (k := (roomy E N).length) (e := ⟨x, key, p⟩) (by rw [List.getElem?_append_right (Nat.le_refl _), Nat.sub_self]; rfl)
          exact h9
        clear hw7 hold hg hol hob
        go_upto_region 17 with fail
        refine wp_region_tail9 12 (by kernel_rfl) (by kernel_rfl) ?_
        simp only [List.take_succ_cons, List.take_zero, List.drop_succ_cons, List.drop_zero]
        repeat still_step
        refine wpStill_nil ?_
        go_wp2_with ((with_reducible refine (show wpList _ _ _ (⟨some 103, _, _, _, _, _⟩ :: _) _ _ from ?_)); refine wpList_copy_but rfl (.tmp 101) (.tmp 102) 25 25 rfl 5 Try.underlying25 (by kernel_rfl) (some ⟨g p, 0, none⟩) vb V V V vc rfl rfl (g p) 0 (u8s old) 5 HG.out (u8s vs) HLN.out (fun h => ⟨rfl, HPOS.out h⟩) HFIT.out (u8s_one vs) ?_; intro w5 hg5 hb5; have HFIN := Lib.hid (HROW.out w5 hg5 hb5); have HB := Lib.hid hb5; clear hg5 hb5)
        go_ret
        exact ⟨x, p, rfl, HP.out, HSZ.out, HFIN.out, (HB7.out.trans ((But.refl [] w7).drew) (by simp)).trans HB.out (fun y hy => .inl (by simp at hy; subst hy; simp only [ownL, List.mem_cons, List.mem_append, List.mem_map, List.mem_range]; exact .inr (.inr (.inr (.inr (.inr ⟨p, HPN.out, rfl⟩))))))⟩
end
end Go.Proofs.Ytifgfnifadmoaaa.M
