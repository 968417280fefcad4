/-
  lru: Value, Set, Update (printed by mklrue.py).
-/
import Derived.Test.YtifgfnifadmoaaaLruD
import Derived.Test.YtifgfnifadmoaaaCopyB
import Derived.Test.YtifgfnifadmoaaaRow
namespace Go.Proofs.Ytifgfnifadmoaaa.M
open Go.RowKit
set_option linter.unusedVariables false
set_option linter.unusedSectionVars false
set_option linter.unusedSimpArgs false
/-- A row that is laid anew: an append to none. -/
theorem freshL {w0 wA w5 : World} {e : TypeId} {v' : Value} {xs : List Value} (hb0 : But [] w0 wA) (hz : w0.heap.size < wA.heap.size) (hap : Appended wA w5 e (.slice (some ⟨w0.heap.size, 0, none⟩) 0 0) v' [] xs) : ∃ a c, v' = .slice a xs.length c ∧ OwnQ w5 e (.slice a xs.length c) xs ∧ (∀ b, (Value.slice a xs.length c).ownBlock = some b → w0.heap.size ≤ b) ∧ But [] w0 w5 := by
  obtain ⟨hq, hc⟩ := hap
  rw [List.nil_append] at hq
  obtain ⟨a', c', rfl⟩ := hq.form
  refine ⟨a', c', rfl, hq, ?_⟩
  rcases hc with ⟨a2, cap, e1, e2, _, hb⟩ | ⟨hn, hb⟩
  · simp only [Value.slice.injEq] at e1 e2
    obtain ⟨rfl, _, rfl⟩ := e1
    obtain ⟨rfl, _, rfl⟩ := e2
    exact ⟨fun b hb' => by cases hb'; exact Nat.le_refl _, hb0.trans hb (fun x hx => .inr (by simp [Value.ownBlock] at hx; omega))⟩
  · refine ⟨fun b hb' => ?_, hb0.trans hb (by simp)⟩
    rw [hn] at hb'
    cases hb'
    omega
theorem fresh_atL (w0 : World) (e : TypeId) : OwnQ (w0.alloc (.cells #[] e)) e (.slice (some ⟨w0.heap.size, 0, none⟩) 0 0) [] := .inr ⟨w0.heap.size, 0, 0, #[], rfl, al_at _ _, Nat.le_refl _, by unfold maxLen; omega, by simp, fun j u h => by simp at h⟩
/-- A row that was made since. -/
def NewRow (w w' : World) (v : Value) (bs : List Int) : Prop := ∃ a c, v = .slice a bs.length c ∧ OwnQ w' 5 (.slice a bs.length c) (u8s bs) ∧ ∀ b, (Value.slice a bs.length c).ownBlock = some b → w.heap.size ≤ b
theorem u8s_one (bs : List Int) : ∀ v ∈ u8s bs, v.oneCell' = true := fun v hv => by
  unfold u8s at hv
  obtain ⟨x, -, rfl⟩ := List.mem_map.1 hv
  rfl
set_option maxRecDepth 100000 in
set_option maxHeartbeats 1000000 in
theorem clone_c (b n c : Nat) (bs : List Int) (w : World) (hs : Sees w (.slice (some ⟨b, 0, none⟩) n c) (u8s bs)) (hn : bs.length = n) (hl : n ≤ 1048576) :
    Calls Try.prog 39 #[.slice (some ⟨b, 0, none⟩) n c] w fun e w' => ∃ v, e = .returned v ∧ NewRow w w' v bs ∧ But [] w w' := by
  have he : (binOp .eql 25 (.slice (some ⟨b, 0, none⟩) n c) (.slice none 0 0)).run Try.prog w = .ok (.bool false) w := by kernel_rfl
  obtain ⟨j0, ki, kz0, kz1, kz2⟩ := info_parts (show (Try.prog.info? 5).map (fun i => (i.zero, i.size, i.bytes)) = some (some (.int .u8 0), 1, 1) by kernel_rfl)
  obtain ⟨r, hr⟩ : ∃ r, r = u8s bs := ⟨_, rfl⟩
  have hrl : r.length = n := by rw [hr, u8s_len, hn]
  have HS : Hid (Src Try.prog j0.size 25 (.slice (some ⟨b, 0, none⟩) n c) r.length r (w.alloc (.cells #[] 5))) := Lib.hid (by
    have h9 := src_sees (P := Try.prog) Try.underlying25 kz1 (hs.but ((But.refl [] w).alloc (.cells #[] 5)) (by simp)) (u8s_one bs)
    rw [← hr] at h9
    exact h9)
  have HQ0 : Hid (OwnQ (w.alloc (.cells #[] 5)) 5 (.slice (some ⟨w.heap.size, 0, none⟩) 0 0) []) := Lib.hid (fresh_atL w 5)
  have KEY : Hid (∀ (v' : Value) (w5 : World), Appended (w.alloc (.cells #[] 5)) w5 5 (.slice (some ⟨w.heap.size, 0, none⟩) 0 0) v' [] r → ∃ a c, v' = .slice a n c ∧ NewRow w w5 (.slice a n c) bs ∧ But [] w w5) := Lib.hid fun v' w5 hap => by
    obtain ⟨a, c, e1, e2, e3, e4⟩ := freshL (w0 := w) ((But.refl [] w).alloc _) (by rw [size_alloc]; omega) hap
    rw [hrl] at e1 e2 e3
    rw [hr] at e2
    refine ⟨a, c, e1, ⟨a, c, by rw [hn], by rw [hn]; exact e2, by rw [hn]; exact e3⟩, e4⟩
  have HRL := Lib.hid hrl
  clear hs hn hr hrl
  go_enter Try.func39, Try.ntmps39
  go_wp2_with (at_builtin; refine wpList_append_row (by rfl) _ _ 25 (by rfl) 5 j0 (.int .u8 0) 1 Try.underlying25 ki kz0 kz1 kz2 rfl _ [] (by rfl) HQ0.out r _ (by rfl) HS.out (by have := HRL.out; unfold maxLen; have h0 : ([] : List Value).length = 0 := rfl; omega) (by have := HRL.out; have h0 : ([] : List Value).length = 0 := rfl; omega) ?_; intro v' w5 hap; obtain ⟨a5, c5, rfl, hn5, hb5⟩ := KEY.out _ _ hap; have HN5 := Lib.hid hn5; have HB5 := Lib.hid hb5; clear hap hn5 hb5)
  go_ret
  exact ⟨_, rfl, HN5.out, HB5.out⟩
/-- Bytes are laid over a row. -/
def setAt (r : List Int) (off : Nat) (bs : List Int) : List Int := r.take off ++ bs ++ r.drop (off + bs.length)
theorem setAt_len {r : List Int} {off : Nat} {bs : List Int} (h : off + bs.length ≤ r.length) : (setAt r off bs).length = r.length := by
  unfold setAt
  rw [List.length_append, List.length_append, List.length_take, List.length_drop]
  omega
theorem setAt_byte {r : List Int} {off : Nat} {bs : List Int} (hr : ByteL r) (hb : ByteL bs) : ByteL (setAt r off bs) := fun x hx => by
  unfold setAt at hx
  rcases List.mem_append.1 hx with hx | hx
  · rcases List.mem_append.1 hx with hx | hx
    · exact hr x (List.mem_of_mem_take hx)
    · exact hb x hx
  · exact hr x (List.mem_of_mem_drop hx)
theorem setAt_u8s (r : List Int) (off : Nat) (bs : List Int) : splice (u8s r) off (u8s bs) = u8s (setAt r off bs) := by
  unfold splice setAt u8s
  simp [List.map_append, List.map_take, List.map_drop]
theorem setAt_all {r bs : List Int} (h : bs.length = r.length) : setAt r 0 bs = bs := by
  unfold setAt
  rw [List.take_zero, List.nil_append, List.drop_of_length_le (by omega), List.append_nil]
section
variable {w : World} {P M U Rm : Nat} {g : Nat → Nat} {K V N : Nat} {E : List Ent} {rows : List (List Int)}
theorem LruW.rowset (h : LruW w P M U Rm g K V N E rows) {p : Nat} (hp : p < N) {w' : World} {r' : List Int} (hb : But [g p] w w') (hg : w'.heap[g p]? = some (.cells (u8s r').toArray 5 (0, 0))) (hl : r'.length = V) (hby : ByteL r') : LruW w' P M U Rm g K V N E (rows.set p r') := by
  have hA := h.apart
  refine ⟨h.head.but hb (by simp; exact hA.pg p hp), h.chain.but hb (by simp; exact hA.pg p hp) (fun x hx => by simp; rintro rfl; exact hA.eg p hp hx), fun e he => (h.link e he).but hb (by simp; rintro y; exact hA.eg p hp (y ▸ mem_bl.2 ⟨e, he, rfl⟩)), h.map.but hb (by simp; exact hA.mg p hp), h.used.but hb (by simp; exact hA.ug p hp), h.room.but hb (by simp; exact hA.rg p hp), ⟨by rw [List.length_set]; exact h.rowsw.1, fun i r hr => ?_⟩, h.ginj, h.keys, h.places, h.bounds⟩
  by_cases e : i = p
  · subst e
    rw [List.getElem?_set_self (by rw [h.rowsw.1]; exact hp)] at hr
    cases hr
    exact ⟨hg, hl, hby⟩
  · rw [List.getElem?_set_ne (Ne.symm e)] at hr
    have h1 := h.rowsw.2 i r hr
    have hi : i < N := by rw [← h.rowsw.1]; exact (List.getElem?_eq_some_iff.1 hr).1
    exact ⟨hb.heap h1.1 (by simp; exact fun y => e (h.ginj i p hi hp y)), h1.2⟩
theorem LruW.rm (h : LruW w P M U Rm g K V N E rows) {p : Nat} (hp : p < N) : w.cell? ⟨Rm, p, none⟩ = some (.slice (some ⟨g p, 0, none⟩) V V) := by
  obtain ⟨C, h1, _, h2⟩ := h.room
  rw [cl_of h1]; exact h2 p hp
theorem LruW.row (h : LruW w P M U Rm g K V N E rows) {p : Nat} {r : List Int} (hr : rows[p]? = some r) : Sees w (.slice (some ⟨g p, 0, none⟩) V V) (u8s r) := by
  obtain ⟨h1, h2, _⟩ := h.rowsw.2 p r hr
  exact .inr ⟨⟨g p, 0, none⟩, V, by rw [u8s_len, h2], by rw [u8s_len, h2]; exact Nat.le_refl _, fun j u hj => by rw [add_at, Nat.zero_add, cl_of h1, List.getElem?_toArray]; exact hj⟩
theorem LruW.value_out (h : LruW w P M U Rm g K V N E rows) {place : Int} (hp : place < 0 ∨ (N : Int) ≤ place) : Calls Try.prog 17 #[.pointer (some ⟨P, 0, none⟩), .int .i64 place] w fun e w' => e = .returned (.tuple #[.slice none 0 0, .int .i64 6]) ∧ w = w' := by
  have HC := Lib.hid (at_out P M N Rm place w h.h8 h.h10 hp)
  clear h hp
  go_enter Try.func17, Try.ntmps17
  go_wp2_with fail
  refine HC.out.mono ?_
  rintro e w1 ⟨rfl, rfl⟩
  go_wp2_with fail
  refine (clone_nil w).mono ?_
  rintro e w1 ⟨rfl, rfl⟩
  go_wp2_with fail
  go_ret2
  exact ⟨rfl, rfl⟩
theorem LruW.value_in (h : LruW w P M U Rm g K V N E rows) {p : Nat} {r : List Int} (hr : rows[p]? = some r) : Calls Try.prog 17 #[.pointer (some ⟨P, 0, none⟩), .int .i64 (p : Int)] w fun e w' => ∃ v, e = .returned (.tuple #[v, .int .i64 0]) ∧ NewRow w w' v r ∧ But [] w w' := by
  have hp : p < N := by rw [← h.rowsw.1]; exact (List.getElem?_eq_some_iff.1 hr).1
  have HC := Lib.hid (at_in P M N Rm p _ V V w h.h8 h.h10 hp (h.rm hp))
  have HN := Lib.hid (clone_c (g p) V V r w (h.row hr) (h.rowsw.2 p r hr).2.1 h.bounds.2.2.2)
  clear h hr hp
  go_enter Try.func17, Try.ntmps17
  go_wp2_with fail
  refine HC.out.mono ?_
  rintro e w1 ⟨rfl, rfl⟩
  go_wp2_with fail
  refine HN.out.mono ?_
  rintro e w1 ⟨v, rfl, hn, hb⟩
  have HNR := Lib.hid hn
  have HB := Lib.hid hb
  obtain ⟨va, vc, rfl, -⟩ := hn
  clear hb
  go_wp2_with fail
  go_ret2
  exact ⟨_, rfl, HNR.out, HB.out⟩
theorem LruW.set_out (h : LruW w P M U Rm g K V N E rows) {place : Int} (hp : place < 0 ∨ (N : Int) ≤ place) (off : Int) (v : Value) : Calls Try.prog 25 #[.pointer (some ⟨P, 0, none⟩), .int .i64 place, .int .i64 off, v] w fun e w' => e = .returned (.int .i64 6) ∧ w = w' := by
  have HC := Lib.hid (at_out P M N Rm place w h.h8 h.h10 hp)
  clear h hp
  go_enter Try.func25, Try.ntmps25
  go_wp2_with fail
  refine HC.out.mono ?_
  rintro e w1 ⟨rfl, rfl⟩
  go_wp2_with fail
  go_ret
  exact ⟨rfl, rfl⟩
theorem LruW.set_bad (h : LruW w P M U Rm g K V N E rows) {p : Nat} (hp : p < N) {off : Int} {n : Nat} (hn : n ≤ 140737488351232) (ho : off < 0 ∨ (V : Int) - n < off) (a : Option Addr) (c : Nat) : Calls Try.prog 25 #[.pointer (some ⟨P, 0, none⟩), .int .i64 (p : Int), .int .i64 off, .slice a n c] w fun e w' => e = .returned (.int .i64 32) ∧ w = w' := by
  have HC := Lib.hid (at_in P M N Rm p _ V V w h.h8 h.h10 hp (h.rm hp))
  have hV := h.bounds.2.2.2
  have hw : wrap64 ((V : Int) - n) = (V : Int) - n := by rw [wrap64]; omega
  clear h hp
  by_cases h0 : off < 0
  · clear ho hV
    go_enter Try.func25, Try.ntmps25
    go_wp2_with fail
    refine HC.out.mono ?_
    rintro e w1 ⟨rfl, rfl⟩
    go_wp2_with fail
    go_ret
    exact ⟨rfl, rfl⟩
  · have h1 : (V : Int) - n < off := by omega
    clear ho hV
    go_enter Try.func25, Try.ntmps25
    go_wp2_with fail
    refine HC.out.mono ?_
    rintro e w1 ⟨rfl, rfl⟩
    go_wp2_with fail
    go_ret
    exact ⟨rfl, rfl⟩
set_option maxRecDepth 100000 in
set_option maxHeartbeats 1000000 in
theorem LruW.set_in (h : LruW w P M U Rm g K V N E rows) {p : Nat} {r : List Int} (hr : rows[p]? = some r) {off : Nat} {bs : List Int} (ho : off + bs.length ≤ V) (a : Option Addr) (c : Nat) (hs : Sees w (.slice a bs.length c) (u8s bs)) (hby : ByteL bs) : Calls Try.prog 25 #[.pointer (some ⟨P, 0, none⟩), .int .i64 (p : Int), .int .i64 (off : Int), .slice a bs.length c] w fun e w' => e = .returned (.int .i64 0) ∧ LruW w' P M U Rm g K V N E (rows.set p (setAt r off bs)) ∧ But [g p] w w' := by
  have hp : p < N := by rw [← h.rowsw.1]; exact (List.getElem?_eq_some_iff.1 hr).1
  have HC := Lib.hid (at_in P M N Rm p _ V V w h.h8 h.h10 hp (h.rm hp))
  obtain ⟨hg, hrl, hrb⟩ := h.rowsw.2 p r hr
  have hV := h.bounds.2.2.2
  have hw : wrap64 ((V : Int) - bs.length) = (V : Int) - bs.length := by rw [wrap64]; omega
  have q0 : (0 : Int) ≤ off := by omega
  have q1 : ¬ ((V : Int) - bs.length < off) := by omega
  have q2 : (off : Int) ≤ V := by omega
  have HG := Lib.hid hg
  have HK : Hid (∀ w', w'.heap[g p]? = some (.cells (splice (u8s r) off (u8s bs)).toArray 5 (0, 0)) → But [g p] w w' → LruW w' P M U Rm g K V N E (rows.set p (setAt r off bs))) := Lib.hid fun w' hg' hb' => by
    rw [setAt_u8s] at hg'
    exact h.rowset hp hb' hg' (by rw [setAt_len (by omega)]; exact hrl) (setAt_byte hrb hby)
  have HPOS : Hid (0 < (u8s bs).length → ∃ ad, a = some ad ∧ ∀ j v, (u8s bs)[j]? = some v → w.cell? (ad.add j) = some v) := Lib.hid fun h0 => sees_src hs h0
  have HFIT : Hid (off + (u8s bs).length ≤ (u8s r).length) := Lib.hid (by rw [u8s_len, u8s_len]; omega)
  have HLN : Hid ((u8s bs).length = Nat.min bs.length (V - off)) := Lib.hid (by rw [u8s_len]; exact (Nat.min_eq_left (by omega)).symm)
  by_cases hov : off = V
  · have hb0 : bs = [] := List.eq_nil_of_length_eq_zero (by omega)
    have HF : Hid (LruW w P M U Rm g K V N E (rows.set p (setAt r off bs))) := Lib.hid (HK.out w (by
      rw [hb0]
      have : splice (u8s r) off (u8s []) = u8s r := by unfold splice u8s; simp
      rw [this]
      exact hg) (But.refl _ _))
    have hw0 : wrap64 (off : Int) = off := by rw [wrap64]; omega
    subst hb0
    subst hov
    clear h hr hg hrl hrb hV hs hby ho HK HPOS HFIT HLN hp
    go_enter Try.func25, Try.ntmps25
    go_wp2_with fail
    refine HC.out.mono ?_
    rintro e w1 ⟨rfl, rfl⟩
    go_wp2_with ((with_reducible refine (show wpList _ _ _ (⟨some 35, _, _, _, _, _⟩ :: _) _ _ from ?_)); refine wpList_copy_nothing rfl (.tmp 33) (.tmp 34) 25 25 rfl 5 Try.underlying25 (by kernel_rfl) _ _ _ _ _ _ rfl rfl (by simp) ?_)
    go_ret
    exact ⟨rfl, HF.out, But.refl _ _⟩
  · have hov' : ¬ (V = off) := fun e => hov e.symm
    clear h hr hg hrl hrb hV hs hby ho hov hp
    go_enter Try.func25, Try.ntmps25
    go_wp2_with fail
    refine HC.out.mono ?_
    rintro e w1 ⟨rfl, rfl⟩
    go_wp2_with ((with_reducible refine (show wpList _ _ _ (⟨some 35, _, _, _, _, _⟩ :: _) _ _ from ?_)); refine wpList_copy_but rfl (.tmp 33) (.tmp 34) 25 25 rfl 5 Try.underlying25 (by kernel_rfl) (some ⟨g p, off, none⟩) a (V - off) (V - off) bs.length c rfl rfl (g p) off (u8s r) 5 HG.out (u8s bs) HLN.out (fun h => ⟨rfl, HPOS.out h⟩) HFIT.out (u8s_one bs) ?_; intro w5 hg5 hb5; have HF := Lib.hid (HK.out w5 hg5 hb5); have HB := Lib.hid hb5; clear hg5 hb5)
    go_ret
    exact ⟨rfl, HF.out, HB.out⟩
end
end Go.Proofs.Ytifgfnifadmoaaa.M
