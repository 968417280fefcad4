/-
  trie: Value, Set.
-/
import Derived.Test.YtpoinhfkgnkedaaTrKey
import Derived.Test.YtpoinhfkgnkedaaTrNil
namespace Go.Proofs.Ytpoinhfkgnkedaa.M
open Go.RowKit Go.Shelf
set_option linter.unusedVariables false
set_option linter.unusedSectionVars false
set_option linter.unusedSimpArgs false
/-- A row that is laid anew: an append to none. -/
theorem freshL {w0 wA w5 : World} {e : TypeId} {v' : Value} {xs : List Value} (hb0 : But [] w0 wA) (hz : w0.heap.size < wA.heap.size) (hap : Appended wA w5 e (.slice (some ⟨w0.heap.size, 0, none⟩) 0 0) v' [] xs) : ∃ a c, v' = .slice a xs.length c ∧ OwnQ w5 e (.slice a xs.length c) xs ∧ (∀ b, (Value.slice a xs.length c).ownBlock = some b → w0.heap.size ≤ b) ∧ But [] w0 w5 := by
  obtain ⟨hq, hc⟩ := hap
  rw [List.nil_append] at hq
  obtain ⟨a', c', rfl⟩ := hq.form
  refine ⟨a', c', rfl, hq, ?_⟩
  rcases hc with ⟨a2, cap, e1, e2, _, hb⟩ | ⟨hn, hb⟩
  · simp only [Value.slice.injEq] at e1 e2
    obtain ⟨rfl, _, rfl⟩ := e1
    obtain ⟨rfl, _, rfl⟩ := e2
    exact ⟨fun b hb' => by cases hb'; exact Nat.le_refl _, hb0.trans hb (fun x hx => .inr (by simp [Value.ownBlock] at hx; omega))⟩
  · refine ⟨fun b hb' => ?_, hb0.trans hb (by simp)⟩
    rw [hn] at hb'
    cases hb'
    omega
theorem fresh_atL (w0 : World) (e : TypeId) : OwnQ (w0.alloc (.cells #[] e)) e (.slice (some ⟨w0.heap.size, 0, none⟩) 0 0) [] := .inr ⟨w0.heap.size, 0, 0, #[], rfl, al_at _ _, Nat.le_refl _, by unfold maxLen; omega, by simp, fun j u h => by simp at h⟩
/-- A row that was made since. -/
def NewRow (w w' : World) (v : Value) (bs : List Int) : Prop := ∃ a c, v = .slice a bs.length c ∧ OwnQ w' 5 (.slice a bs.length c) (u8s bs) ∧ ∀ b, (Value.slice a bs.length c).ownBlock = some b → w.heap.size ≤ b
set_option maxRecDepth 100000 in
set_option maxHeartbeats 1000000 in
theorem clone_c (b n c : Nat) (bs : List Int) (w : World) (hs : Sees w (.slice (some ⟨b, 0, none⟩) n c) (u8s bs)) (hn : bs.length = n) (hl : n ≤ 1048576) :
    Calls Try.prog 40 #[.slice (some ⟨b, 0, none⟩) n c] w fun e w' => ∃ v, e = .returned v ∧ NewRow w w' v bs ∧ But [] w w' := by
  have he : (binOp .eql 26 (.slice (some ⟨b, 0, none⟩) n c) (.slice none 0 0)).run Try.prog w = .ok (.bool false) w := by kernel_rfl
  obtain ⟨j0, ki, kz0, kz1, kz2⟩ := info_parts (show (Try.prog.info? 5).map (fun i => (i.zero, i.size, i.bytes)) = some (some (.int .u8 0), 1, 1) by kernel_rfl)
  obtain ⟨r, hr⟩ : ∃ r, r = u8s bs := ⟨_, rfl⟩
  have hrl : r.length = n := by rw [hr, u8s_len, hn]
  have HS : Hid (Src Try.prog j0.size 26 (.slice (some ⟨b, 0, none⟩) n c) r.length r (w.alloc (.cells #[] 5))) := Lib.hid (by
    have h9 := src_sees (P := Try.prog) Try.underlying26 kz1 (hs.but ((But.refl [] w).alloc (.cells #[] 5)) (by simp)) (u8s_one bs)
    rw [← hr] at h9
    exact h9)
  have HQ0 : Hid (OwnQ (w.alloc (.cells #[] 5)) 5 (.slice (some ⟨w.heap.size, 0, none⟩) 0 0) []) := Lib.hid (fresh_atL w 5)
  have KEY : Hid (∀ (v' : Value) (w5 : World), Appended (w.alloc (.cells #[] 5)) w5 5 (.slice (some ⟨w.heap.size, 0, none⟩) 0 0) v' [] r → ∃ a c, v' = .slice a n c ∧ NewRow w w5 (.slice a n c) bs ∧ But [] w w5) := Lib.hid fun v' w5 hap => by
    obtain ⟨a, c, e1, e2, e3, e4⟩ := freshL (w0 := w) ((But.refl [] w).alloc _) (by rw [size_alloc]; omega) hap
    rw [hrl] at e1 e2 e3
    rw [hr] at e2
    refine ⟨a, c, e1, ⟨a, c, by rw [hn], by rw [hn]; exact e2, by rw [hn]; exact e3⟩, e4⟩
  have HRL := Lib.hid hrl
  clear hs hn hr hrl
  go_enter Try.func40, Try.ntmps40
  go_wp2_with (at_builtin; refine wpList_append_row (by rfl) _ _ 26 (by rfl) 5 j0 (.int .u8 0) 1 Try.underlying26 ki kz0 kz1 kz2 rfl _ [] (by rfl) HQ0.out r _ (by rfl) HS.out (by have := HRL.out; unfold maxLen; have h0 : ([] : List Value).length = 0 := rfl; omega) (by have := HRL.out; have h0 : ([] : List Value).length = 0 := rfl; omega) ?_; intro v' w5 hap; obtain ⟨a5, c5, rfl, hn5, hb5⟩ := KEY.out _ _ hap; have HN5 := Lib.hid hn5; have HB5 := Lib.hid hb5; clear hap hn5 hb5)
  go_ret
  exact ⟨_, rfl, HN5.out, HB5.out⟩
/-- Bytes are laid over a row. -/
def setAt (r : List Int) (off : Nat) (bs : List Int) : List Int := r.take off ++ bs ++ r.drop (off + bs.length)
theorem setAt_len {r : List Int} {off : Nat} {bs : List Int} (h : off + bs.length ≤ r.length) : (setAt r off bs).length = r.length := by
  unfold setAt
  rw [List.length_append, List.length_append, List.length_take, List.length_drop]
  omega
theorem setAt_byte {r : List Int} {off : Nat} {bs : List Int} (hr : ByteL r) (hb : ByteL bs) : ByteL (setAt r off bs) := fun x hx => by
  unfold setAt at hx
  rcases List.mem_append.1 hx with hx | hx
  · rcases List.mem_append.1 hx with hx | hx
    · exact hr x (List.mem_of_mem_take hx)
    · exact hb x hx
  · exact hr x (List.mem_of_mem_drop hx)
theorem setAt_u8s (r : List Int) (off : Nat) (bs : List Int) : splice (u8s r) off (u8s bs) = u8s (setAt r off bs) := by
  unfold splice setAt u8s
  simp [List.map_append, List.map_take, List.map_drop]
theorem setAt_all {r bs : List Int} (h : bs.length = r.length) : setAt r 0 bs = bs := by
  unfold setAt
  rw [List.take_zero, List.nil_append, List.drop_of_length_le (by omega), List.append_nil]
theorem at_out (P root N Rm : Nat) (place : Int) (w : World) (h4 : w.cell? ⟨P, 4, none⟩ = some (.pointer (some ⟨root, 0, none⟩))) (h6 : w.cell? ⟨P, 6, none⟩ = some (.slice (some ⟨Rm, 0, none⟩) N N)) (hp : place < 0 ∨ (N : Int) ≤ place) :
    Calls Try.prog 48 #[.pointer (some ⟨P, 0, none⟩), .int .i64 place] w fun e w' => e = .returned (.tuple #[.slice none 0 0, .int .i64 6]) ∧ w = w' := by
  by_cases h0 : place < 0
  · clear hp
    go_enter Try.func48, Try.ntmps48
    go_wp2_with fail
    go_ret2
    exact ⟨rfl, rfl⟩
  · have hn : (N : Int) ≤ place := by omega
    clear hp
    go_enter Try.func48, Try.ntmps48
    go_wp2_with fail
    go_ret2
    exact ⟨rfl, rfl⟩
theorem at_in (P root N Rm p : Nat) (s : Option Addr) (V c : Nat) (w : World) (h4 : w.cell? ⟨P, 4, none⟩ = some (.pointer (some ⟨root, 0, none⟩))) (h6 : w.cell? ⟨P, 6, none⟩ = some (.slice (some ⟨Rm, 0, none⟩) N N)) (hp : p < N) (hs : w.cell? ⟨Rm, p, none⟩ = some (.slice s V c)) :
    Calls Try.prog 48 #[.pointer (some ⟨P, 0, none⟩), .int .i64 (p : Int)] w fun e w' => e = .returned (.tuple #[.slice s V c, .int .i64 0]) ∧ w = w' := by
  have h0 : (0 : Int) ≤ p := by omega
  have hn : (p : Int) < N := by omega
  clear hp
  go_enter Try.func48, Try.ntmps48
  go_wp2_with fail
  go_ret2
  exact ⟨rfl, rfl⟩
def valA (N : Nat) (rows : List (List Int)) (p : Int) : List Int × Int := if p < 0 ∨ (N : Int) ≤ p then ([], 6) else ((rows[p.toNat]?).getD [], 0)
def setA (V N : Nat) (rows : List (List Int)) (p off : Int) (bs : List Int) : Int × List (List Int) :=
  if p < 0 ∨ (N : Int) ≤ p then (6, rows) else if off < 0 ∨ (V : Int) - bs.length < off then (32, rows) else (0, rows.set p.toNat (setAt ((rows[p.toNat]?).getD []) off.toNat bs))
theorem newRow_nil (w w' : World) : NewRow w w' (.slice none 0 0) [] := ⟨none, 0, rfl, OwnQ.nil _ _, fun b hb => by cases hb⟩
section
variable {w : World} {P root U Rm K V N : Nat} {nd xs : Path → Option Nat} {pl kb : Nat → Nat} {f : Nat → Bool} {g : Nat → Nat} {rows : List (List Int)}
theorem TrieS.h4 (h : TrieS w P root U Rm K V N nd xs pl kb f g rows) : w.cell? ⟨P, 4, none⟩ = some (.pointer (some ⟨root, 0, none⟩)) := cl_of h.head 4
theorem TrieS.h6 (h : TrieS w P root U Rm K V N nd xs pl kb f g rows) : w.cell? ⟨P, 6, none⟩ = some (.slice (some ⟨Rm, 0, none⟩) N N) := cl_of h.head 6
theorem TrieS.vb (h : TrieS w P root U Rm K V N nd xs pl kb f g rows) : V ≤ 1048576 := by have := h.num; omega
theorem TrieS.rm (h : TrieS w P root U Rm K V N nd xs pl kb f g rows) {p : Nat} (hp : p < N) : w.cell? ⟨Rm, p, none⟩ = some (.slice (some ⟨g p, 0, none⟩) V V) := by
  obtain ⟨C, h1, _, h2⟩ := h.room
  rw [cl_of h1]; exact h2 p hp
theorem TrieS.row (h : TrieS w P root U Rm K V N nd xs pl kb f g rows) {p : Nat} {r : List Int} (hr : rows[p]? = some r) : Sees w (.slice (some ⟨g p, 0, none⟩) V V) (u8s r) := by
  obtain ⟨h1, h2, _⟩ := h.rows.2 p r hr
  exact .inr ⟨⟨g p, 0, none⟩, V, by rw [u8s_len, h2], by rw [u8s_len, h2]; exact Nat.le_refl _, fun j u hj => by rw [add_at, Nat.zero_add, cl_of h1, List.getElem?_toArray]; exact hj⟩
theorem TrieS.value_out (h : TrieS w P root U Rm K V N nd xs pl kb f g rows) {place : Int} (hp : place < 0 ∨ (N : Int) ≤ place) : Calls Try.prog 18 #[.pointer (some ⟨P, 0, none⟩), .int .i64 place] w fun e w' => e = .returned (.tuple #[.slice none 0 0, .int .i64 6]) ∧ w = w' := by
  have HC := Lib.hid (at_out P root N Rm place w h.h4 h.h6 hp)
  clear h hp
  go_enter Try.func18, Try.ntmps18
  go_wp2_with fail
  refine HC.out.mono ?_
  rintro e w1 ⟨rfl, rfl⟩
  go_wp2_with fail
  refine (clone_nil w).mono ?_
  rintro e w1 ⟨rfl, rfl⟩
  go_wp2_with fail
  go_ret2
  exact ⟨rfl, rfl⟩
theorem TrieS.value_in (h : TrieS w P root U Rm K V N nd xs pl kb f g rows) {p : Nat} {r : List Int} (hr : rows[p]? = some r) : Calls Try.prog 18 #[.pointer (some ⟨P, 0, none⟩), .int .i64 (p : Int)] w fun e w' => ∃ v, e = .returned (.tuple #[v, .int .i64 0]) ∧ NewRow w w' v r ∧ But [] w w' := by
  have hp : p < N := by rw [← h.rows.1]; exact (List.getElem?_eq_some_iff.1 hr).1
  have HC := Lib.hid (at_in P root N Rm p _ V V w h.h4 h.h6 hp (h.rm hp))
  have HN := Lib.hid (clone_c (g p) V V r w (h.row hr) (h.rows.2 p r hr).2.1 h.vb)
  clear h hr hp
  go_enter Try.func18, Try.ntmps18
  go_wp2_with fail
  refine HC.out.mono ?_
  rintro e w1 ⟨rfl, rfl⟩
  go_wp2_with fail
  refine HN.out.mono ?_
  rintro e w1 ⟨v, rfl, hn, hb⟩
  have HNR := Lib.hid hn
  have HB := Lib.hid hb
  obtain ⟨va, vc, rfl, -⟩ := hn
  clear hb
  go_wp2_with fail
  go_ret2
  exact ⟨_, rfl, HNR.out, HB.out⟩
theorem TrieS.set_out (h : TrieS w P root U Rm K V N nd xs pl kb f g rows) {place : Int} (hp : place < 0 ∨ (N : Int) ≤ place) (off : Int) (v : Value) : Calls Try.prog 26 #[.pointer (some ⟨P, 0, none⟩), .int .i64 place, .int .i64 off, v] w fun e w' => e = .returned (.int .i64 6) ∧ w = w' := by
  have HC := Lib.hid (at_out P root N Rm place w h.h4 h.h6 hp)
  clear h hp
  go_enter Try.func26, Try.ntmps26
  go_wp2_with fail
  refine HC.out.mono ?_
  rintro e w1 ⟨rfl, rfl⟩
  go_wp2_with fail
  go_ret
  exact ⟨rfl, rfl⟩
theorem TrieS.set_bad (h : TrieS w P root U Rm K V N nd xs pl kb f g rows) {p : Nat} (hp : p < N) {off : Int} {n : Nat} (hn : n ≤ 140737488351232) (ho : off < 0 ∨ (V : Int) - n < off) (a : Option Addr) (c : Nat) : Calls Try.prog 26 #[.pointer (some ⟨P, 0, none⟩), .int .i64 (p : Int), .int .i64 off, .slice a n c] w fun e w' => e = .returned (.int .i64 32) ∧ w = w' := by
  have HC := Lib.hid (at_in P root N Rm p _ V V w h.h4 h.h6 hp (h.rm hp))
  have hV := h.vb
  have hw : wrap64 ((V : Int) - n) = (V : Int) - n := by rw [wrap64]; omega
  clear h hp
  by_cases h0 : off < 0
  · clear ho hV
    go_enter Try.func26, Try.ntmps26
    go_wp2_with fail
    refine HC.out.mono ?_
    rintro e w1 ⟨rfl, rfl⟩
    go_wp2_with fail
    go_ret
    exact ⟨rfl, rfl⟩
  · have h1 : (V : Int) - n < off := by omega
    clear ho hV
    go_enter Try.func26, Try.ntmps26
    go_wp2_with fail
    refine HC.out.mono ?_
    rintro e w1 ⟨rfl, rfl⟩
    go_wp2_with fail
    go_ret
    exact ⟨rfl, rfl⟩
set_option maxRecDepth 100000 in
set_option maxHeartbeats 1000000 in
theorem TrieS.set_in (h : TrieS w P root U Rm K V N nd xs pl kb f g rows) {p : Nat} {r : List Int} (hr : rows[p]? = some r) {off : Nat} {bs : List Int} (ho : off + bs.length ≤ V) (a : Option Addr) (c : Nat) (hs : Sees w (.slice a bs.length c) (u8s bs)) (hby : ByteL bs) : Calls Try.prog 26 #[.pointer (some ⟨P, 0, none⟩), .int .i64 (p : Int), .int .i64 (off : Int), .slice a bs.length c] w fun e w' => e = .returned (.int .i64 0) ∧ TrieS w' P root U Rm K V N nd xs pl kb f g (rows.set p (setAt r off bs)) ∧ But [g p] w w' := by
  have hp : p < N := by rw [← h.rows.1]; exact (List.getElem?_eq_some_iff.1 hr).1
  have HC := Lib.hid (at_in P root N Rm p _ V V w h.h4 h.h6 hp (h.rm hp))
  obtain ⟨hg, hrl, hrb⟩ := h.rows.2 p r hr
  have hV := h.vb
  have hw : wrap64 ((V : Int) - bs.length) = (V : Int) - bs.length := by rw [wrap64]; omega
  have q0 : (0 : Int) ≤ off := by omega
  have q1 : ¬ ((V : Int) - bs.length < off) := by omega
  have q2 : (off : Int) ≤ V := by omega
  have HG := Lib.hid hg
  have HK : Hid (∀ w', w'.heap[g p]? = some (.cells (splice (u8s r) off (u8s bs)).toArray 5 (0, 0)) → But [g p] w w' → TrieS w' P root U Rm K V N nd xs pl kb f g (rows.set p (setAt r off bs))) := Lib.hid fun w' hg' hb' => by
    rw [setAt_u8s] at hg'
    exact h.setRow hp (by rw [setAt_len (by omega)]; exact hrl) (setAt_byte hrb hby) hg' hb'
  have HPOS : Hid (0 < (u8s bs).length → ∃ ad, a = some ad ∧ ∀ j v, (u8s bs)[j]? = some v → w.cell? (ad.add j) = some v) := Lib.hid fun h0 => sees_src hs h0
  have HFIT : Hid (off + (u8s bs).length ≤ (u8s r).length) := Lib.hid (by rw [u8s_len, u8s_len]; omega)
  have HLN : Hid ((u8s bs).length = Nat.min bs.length (V - off)) := Lib.hid (by rw [u8s_len]; exact (Nat.min_eq_left (by omega)).symm)
  by_cases hov : off = V
  · have hb0 : bs = [] := List.eq_nil_of_length_eq_zero (by omega)
    have HF : Hid (TrieS w P root U Rm K V N nd xs pl kb f g (rows.set p (setAt r off bs))) := Lib.hid (HK.out w (by
      rw [hb0]
      have : splice (u8s r) off (u8s []) = u8s r := by unfold splice u8s; simp
      rw [this]
      exact hg) (But.refl _ _))
    have hw0 : wrap64 (off : Int) = off := by rw [wrap64]; omega
    subst hb0
    subst hov
    clear h hr hg hrl hrb hV hs hby ho HK HPOS HFIT HLN hp
    go_enter Try.func26, Try.ntmps26
    go_wp2_with fail
    refine HC.out.mono ?_
    rintro e w1 ⟨rfl, rfl⟩
    go_wp2_with ((with_reducible refine (show wpList _ _ _ (⟨some 35, _, _, _, _, _⟩ :: _) _ _ from ?_)); refine wpList_copy_nothing rfl (.tmp 33) (.tmp 34) 26 26 rfl 5 Try.underlying26 (by kernel_rfl) _ _ _ _ _ _ rfl rfl (by simp) ?_)
    go_ret
    exact ⟨rfl, HF.out, But.refl _ _⟩
  · have hov' : ¬ (V = off) := fun e => hov e.symm
    clear h hr hg hrl hrb hV hs hby ho hov hp
    go_enter Try.func26, Try.ntmps26
    go_wp2_with fail
    refine HC.out.mono ?_
    rintro e w1 ⟨rfl, rfl⟩
    go_wp2_with ((with_reducible refine (show wpList _ _ _ (⟨some 35, _, _, _, _, _⟩ :: _) _ _ from ?_)); refine wpList_copy_but rfl (.tmp 33) (.tmp 34) 26 26 rfl 5 Try.underlying26 (by kernel_rfl) (some ⟨g p, off, none⟩) a (V - off) (V - off) bs.length c rfl rfl (g p) off (u8s r) 5 HG.out (u8s bs) HLN.out (fun h => ⟨rfl, HPOS.out h⟩) HFIT.out (u8s_one bs) ?_; intro w5 hg5 hb5; have HF := Lib.hid (HK.out w5 hg5 hb5); have HB := Lib.hid hb5; clear hg5 hb5)
    go_ret
    exact ⟨rfl, HF.out, HB.out⟩
end
section
variable {w W : World} {S : Nat → Prop} {P K V N : Nat} {E : EMap} {rows : List (List Int)}
theorem TO.rowAt (h : TO w W S P K V N E rows) {p : Int} (hp : ¬ (p < 0 ∨ (N : Int) ≤ p)) : ∃ r, rows[p.toNat]? = some r ∧ r.length = V ∧ ByteL r := by
  obtain ⟨h1, h2⟩ := h.rowsLen
  have hlt : p.toNat < rows.length := by rw [h1]; omega
  exact ⟨_, List.getElem?_eq_getElem hlt, h2 _ _ (List.getElem?_eq_getElem hlt)⟩
theorem TO.value (h : TO w W S P K V N E rows) (p : Int) :
    Calls Try.prog 18 #[.pointer (some ⟨P, 0, none⟩), .int .i64 p] W fun e w' => ∃ v, e = .returned (.tuple #[v, .int .i64 (valA N rows p).2]) ∧ NewRow W w' v (valA N rows p).1 ∧ But [] W w' := by
  obtain ⟨root, U, Rm, nd, xs, pl, kb, f, g, h1, h2, h3⟩ := h.ex
  by_cases hp : p < 0 ∨ (N : Int) ≤ p
  · have e1 : valA N rows p = ([], 6) := if_pos hp
    rw [e1]
    refine (h1.value_out hp).mono ?_
    rintro e w' ⟨rfl, rfl⟩
    exact ⟨_, rfl, newRow_nil _ _, But.refl _ _⟩
  · obtain ⟨r, hr, _⟩ := h.rowAt hp
    have e1 : valA N rows p = (r, 0) := by unfold valA; rw [if_neg hp, hr]; rfl
    rw [e1]
    obtain ⟨q, rfl⟩ : ∃ q : Nat, p = q := ⟨p.toNat, by omega⟩
    refine (h1.value_in (p := q) (by simpa using hr)).mono ?_
    rintro e w' ⟨v, rfl, hn, hb⟩
    exact ⟨v, rfl, hn, hb⟩
theorem TO.set (h : TO w W S P K V N E rows) (p off : Int) (a : Option Addr) (c : Nat) {bs : List Int} (hs : Sees W (.slice a bs.length c) (u8s bs)) (hby : ByteL bs) (hn : bs.length ≤ 140737488351232) :
    Calls Try.prog 26 #[.pointer (some ⟨P, 0, none⟩), .int .i64 p, .int .i64 off, .slice a bs.length c] W fun e w' => e = .returned (.int .i64 (setA V N rows p off bs).1) ∧ ∃ S', TO w w' S' P K V N E (setA V N rows p off bs).2 ∧ TurnsO S S' W w' := by
  obtain ⟨root, U, Rm, nd, xs, pl, kb, f, g, h1, h2, h3⟩ := h.ex
  by_cases hp : p < 0 ∨ (N : Int) ≤ p
  · have e1 : setA V N rows p off bs = (6, rows) := if_pos hp
    rw [e1]
    refine (h1.set_out hp off _).mono ?_
    rintro e w' ⟨rfl, rfl⟩
    exact ⟨rfl, S, h, .refl (But.refl _ _)⟩
  · obtain ⟨r, hr, _⟩ := h.rowAt hp
    obtain ⟨q, rfl⟩ : ∃ q : Nat, p = q := ⟨p.toNat, by omega⟩
    by_cases ho : off < 0 ∨ (V : Int) - bs.length < off
    · have e1 : setA V N rows q off bs = (32, rows) := by unfold setA; rw [if_neg hp, if_pos ho]
      rw [e1]
      refine (h1.set_bad (p := q) (by omega) hn ho a c).mono ?_
      rintro e w' ⟨rfl, rfl⟩
      exact ⟨rfl, S, h, .refl (But.refl _ _)⟩
    · obtain ⟨o, rfl⟩ : ∃ o : Nat, off = o := ⟨off.toNat, by omega⟩
      have e1 : setA V N rows q o bs = (0, rows.set q (setAt r o bs)) := by
        unfold setA; rw [if_neg hp, if_neg ho, hr]; rfl
      rw [e1]
      refine (h1.set_in (p := q) (by simpa using hr) (off := o) (by omega) a c hs hby).mono ?_
      rintro e w' ⟨rfl, hL, hb⟩
      refine ⟨rfl, h.turn hL h2 (fun b hm => .inl (h3 b hm)) ⟨_, fun x hx => .inl (h3 x ?_), hb⟩⟩
      rw [List.mem_singleton] at hx
      exact .inr (.inr (.inr (.inr (.inr ⟨q, by omega, hx⟩))))
end
end Go.Proofs.Ytpoinhfkgnkedaa.M
