/-
  lru: free; Lookup, Delete.
-/
import Derived.Test.YtifgfnifadmoaaaFree
import Derived.Test.YtifgfnifadmoaaaStr
namespace Go.Proofs.Ytifgfnifadmoaaa.M
open Go.RowKit
set_option linter.unusedVariables false
set_option linter.unusedSectionVars false
set_option linter.unusedSimpArgs false
theorem str_size (ks : List Int) : (strOfNums ks).size = ks.length := by simp [strOfNums, ByteArray.size]
section
variable {w : World} {P M U Rm : Nat} {g : Nat → Nat} {K V N : Nat} {E : List Ent} {rows : List (List Int)}
theorem LruW.free (h : LruW w P M U Rm g K V N E rows) : Calls Try.prog 34 #[.pointer (some ⟨P, 0, none⟩)] w fun e w' => ∃ p : Nat, e = .returned (.int .i64 p) ∧ Least (roomy E N) N p ∧ LruW w' P M U Rm g K V N (roomy E N) rows ∧ But (P :: M :: U :: bl E) w w' := by
  unfold roomy
  by_cases hl : E.length = N
  · rw [if_pos hl]
    exact callsIn_wide.1 (free_full h hl)
  · rw [if_neg hl]
    refine (free_no h (by have := h.few; omega)).mono ?_
    rintro e w' ⟨p, he, hp, hb⟩
    exact ⟨p, he, hp, h.new hb, hb.mono (by simp)⟩
/-- What a look-up in the map tells. -/
theorem LruW.find (h : LruW w P M U Rm g K V N E rows) {k : Nat} {e : Ent} (hk : E[k]? = some e) : (Instr.lookup 62 (.map (some M)) (.string e.key) true).run Try.prog w = .ok (.tuple #[.pointer (some ⟨e.b, 0, none⟩), .bool true]) w := by
  obtain ⟨ps, hm, hp⟩ := h.map
  obtain ⟨hnd, hsz⟩ := h.maps hp
  have hin : (e.key, lp e.b) ∈ ps := hp.mem_iff.2 (List.mem_map.2 ⟨e, List.mem_of_getElem? hk, rfl⟩)
  exact mapS_get (P := Try.prog) Try.underlying9 Try.underlying62 hm hsz (hsz _ hin) hin hnd
theorem zero_p (u : World) : (zeroValue 57).run Try.prog u = .ok (.pointer none) u := by kernel_rfl
theorem LruW.miss (h : LruW w P M U Rm g K V N E rows) {n : ByteArray} (hn : n.size ≤ maxLen) (hne : ∀ e ∈ E, e.key ≠ n) : (Instr.lookup 62 (.map (some M)) (.string n) true).run Try.prog w = .ok (.tuple #[.pointer none, .bool false]) w := by
  obtain ⟨ps, hm, hp⟩ := h.map
  obtain ⟨hnd, hsz⟩ := h.maps hp
  exact mapS_none (P := Try.prog) Try.underlying9 Try.underlying62 hm hsz hn (zero_p w) (fun p hpp => by
    obtain ⟨e, he, rfl⟩ := List.mem_map.1 (hp.mem_iff.1 hpp)
    exact hne e he)
theorem LruW.kp (h : LruW w P M U Rm g K V N E rows) {k : Nat} {e : Ent} (hk : E[k]? = some e) : w.cell? ⟨e.b, 1, none⟩ = some (.int .i64 e.place) := by
  obtain ⟨C, h1, _, _, h2⟩ := h.link e (List.mem_of_getElem? hk)
  rw [cl_of h1]; exact h2
theorem conv_at {w : World} {a : Option Addr} {n c : Nat} {ks : List Int} (hs : Sees w (.slice a n c) (u8s ks)) : (convert 25 9 (.slice a n c)).run Try.prog w = .ok (.string (strOfNums ks)) w :=
  conv_str (P := Try.prog) Try.underlying25 Try.underlying5 Try.underlying9 hs
theorem lenE_ne {n K : Nat} (h : n ≠ K) : lenE n K = 2 := if_neg h
theorem lenE_eq (K : Nat) : lenE K K = 0 := if_pos rfl
theorem LruW.lookup_bad (h : LruW w P M U Rm g K V N E rows) {n : Nat} (hn : n ≠ K) (a : Option Addr) (c : Nat) : Calls Try.prog 11 #[.pointer (some ⟨P, 0, none⟩), .slice a n c] w fun e w' => e = .returned (.tuple #[.int .i64 0, .int .i64 2]) ∧ w = w' := by
  have HC := Lib.hid (check_c P M K n a c w h.h8 h.h1)
  rw [lenE_ne hn] at HC
  clear h hn
  go_enter Try.func11, Try.ntmps11
  go_wp2_with fail
  refine HC.out.mono ?_
  rintro e w1 ⟨rfl, rfl⟩
  go_wp2_with fail
  go_ret2
  exact ⟨rfl, rfl⟩
theorem LruW.delete_bad (h : LruW w P M U Rm g K V N E rows) {n : Nat} (hn : n ≠ K) (a : Option Addr) (c : Nat) : Calls Try.prog 15 #[.pointer (some ⟨P, 0, none⟩), .slice a n c] w fun e w' => e = .returned (.int .i64 2) ∧ w = w' := by
  have HC := Lib.hid (check_c P M K n a c w h.h8 h.h1)
  rw [lenE_ne hn] at HC
  clear h hn
  go_enter Try.func15, Try.ntmps15
  go_wp2_with fail
  refine HC.out.mono ?_
  rintro e w1 ⟨rfl, rfl⟩
  go_wp2_with fail
  go_ret
  exact ⟨rfl, rfl⟩
set_option maxRecDepth 100000 in
set_option maxHeartbeats 1000000 in
theorem LruW.lookup_none (h : LruW w P M U Rm g K V N E rows) (a : Option Addr) (c : Nat) {ks : List Int} (hs : Sees w (.slice a K c) (u8s ks)) (hl : ks.length = K) (hne : ∀ e ∈ E, e.key ≠ strOfNums ks) : Calls Try.prog 11 #[.pointer (some ⟨P, 0, none⟩), .slice a K c] w fun e w' => e = .returned (.tuple #[.int .i64 0, .int .i64 6]) ∧ But [] w w' := by
  have HC := Lib.hid (check_c P M K K a c w h.h8 h.h1)
  rw [lenE_eq] at HC
  have hd : But [] w w.drew := (But.refl [] w).drew
  have hcv := conv_at (hs.but hd (by simp))
  have hlk := (h.new hd).miss (n := strOfNums ks) (by rw [str_size, hl]; have := h.bounds; unfold maxLen; omega) hne
  have a8 := h.h8
  obtain ⟨key, hkey⟩ : ∃ k, k = strOfNums ks := ⟨_, rfl⟩
  rw [← hkey] at hcv hlk
  clear h hs hl hne hd hkey
  go_enter Try.func11, Try.ntmps11
  go_wp2_with fail
  refine HC.out.mono ?_
  rintro e w1 ⟨rfl, rfl⟩
  go_upto_region 4 with fail
  refine wp_region_tail9 11 (by kernel_rfl) (by kernel_rfl) ?_
  simp only [List.take_succ_cons, List.take_zero, List.drop_succ_cons, List.drop_zero]
  repeat still_step
  refine wpStill_nil ?_
  go_wp2_with fail
  go_ret2
  exact ⟨rfl, (But.refl [] _).drew⟩
set_option maxRecDepth 100000 in
set_option maxHeartbeats 1000000 in
theorem LruW.lookup_hit (h : LruW w P M U Rm g K V N E rows) (a : Option Addr) (c : Nat) {ks : List Int} (hs : Sees w (.slice a K c) (u8s ks)) {k : Nat} {e : Ent} (hk : E[k]? = some e) (hke : e.key = strOfNums ks) : Calls Try.prog 11 #[.pointer (some ⟨P, 0, none⟩), .slice a K c] w fun r w' => r = .returned (.tuple #[.int .i64 e.place, .int .i64 0]) ∧ LruW w' P M U Rm g K V N (E.eraseIdx k ++ [e]) rows ∧ But (P :: bl E) w w' := by
  have HC := Lib.hid (check_c P M K K a c w h.h8 h.h1)
  rw [lenE_eq] at HC
  have hd : But [] w w.drew := (But.refl [] w).drew
  have hcv := conv_at (hs.but hd (by simp))
  have hlk := (h.new hd).find hk
  have HY := Lib.hid ((h.new hd).young hk)
  have a8 := h.h8
  have HE : Hid ((E.eraseIdx k ++ [e])[E.length - 1]? = some e) := Lib.hid (by
    have hl := (List.getElem?_eq_some_iff.1 hk).1
    rw [List.getElem?_append_right (by rw [List.length_eraseIdx, if_pos hl]; omega), List.length_eraseIdx, if_pos hl, Nat.sub_self]
    rfl)
  rw [← hke] at hcv
  obtain ⟨x, key, p⟩ := e
  simp only at hlk hcv HY ⊢
  clear h hs hk hke hd
  go_enter Try.func11, Try.ntmps11
  go_wp2_with fail
  refine HC.out.mono ?_
  rintro e w1 ⟨rfl, rfl⟩
  go_upto_region 4 with fail
  refine wp_region_tail9 11 (by kernel_rfl) (by kernel_rfl) ?_
  simp only [List.take_succ_cons, List.take_zero, List.drop_succ_cons, List.drop_zero]
  repeat still_step
  refine wpStill_nil ?_
  clear hlk hcv a8
  go_wp2_with fail
  refine HY.out.mono ?_
  rintro r w2 ⟨rfl, h2, hb2⟩
  have HH2 := Lib.hid h2
  have HB2 : Hid (But (P :: bl E) w w2) := Lib.hid ((((But.refl [] w).drew).mono (by simp)).trans hb2 (fun x hx => .inl hx))
  have c1 := h2.kp HE.out
  simp only at c1
  clear h2 hb2
  go_wp2_with fail
  go_ret2
  exact ⟨rfl, HH2.out, HB2.out⟩
set_option maxRecDepth 100000 in
set_option maxHeartbeats 1000000 in
theorem LruW.delete_none (h : LruW w P M U Rm g K V N E rows) (a : Option Addr) (c : Nat) {ks : List Int} (hs : Sees w (.slice a K c) (u8s ks)) (hl : ks.length = K) (hne : ∀ e ∈ E, e.key ≠ strOfNums ks) : Calls Try.prog 15 #[.pointer (some ⟨P, 0, none⟩), .slice a K c] w fun e w' => e = .returned (.int .i64 6) ∧ But [] w w' := by
  have HC := Lib.hid (check_c P M K K a c w h.h8 h.h1)
  rw [lenE_eq] at HC
  have hd : But [] w w.drew := (But.refl [] w).drew
  have hcv := conv_at (hs.but hd (by simp))
  have hlk := (h.new hd).miss (n := strOfNums ks) (by rw [str_size, hl]; have := h.bounds; unfold maxLen; omega) hne
  have a8 := h.h8
  obtain ⟨key, hkey⟩ : ∃ k, k = strOfNums ks := ⟨_, rfl⟩
  rw [← hkey] at hcv hlk
  clear h hs hl hne hd hkey
  go_enter Try.func15, Try.ntmps15
  go_wp2_with fail
  refine HC.out.mono ?_
  rintro e w1 ⟨rfl, rfl⟩
  go_upto_region 4 with fail
  refine wp_region_tail9 11 (by kernel_rfl) (by kernel_rfl) ?_
  simp only [List.take_succ_cons, List.take_zero, List.drop_succ_cons, List.drop_zero]
  repeat still_step
  refine wpStill_nil ?_
  go_wp2_with fail
  go_ret
  exact ⟨rfl, (But.refl [] _).drew⟩
set_option maxRecDepth 100000 in
set_option maxHeartbeats 1000000 in
theorem LruW.delete_hit (h : LruW w P M U Rm g K V N E rows) (a : Option Addr) (c : Nat) {ks : List Int} (hs : Sees w (.slice a K c) (u8s ks)) {k : Nat} {e : Ent} (hk : E[k]? = some e) (hke : e.key = strOfNums ks) : Calls Try.prog 15 #[.pointer (some ⟨P, 0, none⟩), .slice a K c] w fun r w' => r = .returned (.int .i64 0) ∧ LruW w' P M U Rm g K V N (E.eraseIdx k) rows ∧ But (P :: M :: U :: bl E) w w' := by
  have HC := Lib.hid (check_c P M K K a c w h.h8 h.h1)
  rw [lenE_eq] at HC
  have hd : But [] w w.drew := (But.refl [] w).drew
  have hcv := conv_at (hs.but hd (by simp))
  have hlk := (h.new hd).find hk
  have HY := Lib.hid ((h.new hd).drop hk)
  have a8 := h.h8
  rw [← hke] at hcv
  obtain ⟨x, key, p⟩ := e
  simp only at hlk hcv HY ⊢
  clear h hs hk hke hd
  go_enter Try.func15, Try.ntmps15
  go_wp2_with fail
  refine HC.out.mono ?_
  rintro e w1 ⟨rfl, rfl⟩
  go_upto_region 4 with fail
  refine wp_region_tail9 11 (by kernel_rfl) (by kernel_rfl) ?_
  simp only [List.take_succ_cons, List.take_zero, List.drop_succ_cons, List.drop_zero]
  repeat still_step
  refine wpStill_nil ?_
  clear hlk hcv a8
  go_wp2_with fail
  refine HY.out.mono ?_
  rintro r w2 ⟨rfl, h2, hb2⟩
  have HH2 := Lib.hid h2
  have HB2 : Hid (But (P :: M :: U :: bl E) w w2) := Lib.hid ((((But.refl [] w).drew).mono (by simp)).trans hb2 (fun x hx => .inl hx))
  clear h2 hb2
  go_wp2_with fail
  go_ret
  exact ⟨rfl, HH2.out, HB2.out⟩
end
end Go.Proofs.Ytifgfnifadmoaaa.M
