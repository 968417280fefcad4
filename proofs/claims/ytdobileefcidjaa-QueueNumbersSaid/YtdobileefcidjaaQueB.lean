/-
  A thing put behind; the next one's place; Peek.
-/
import Derived.Test.YtdobileefcidjaaQueA
namespace Go.Proofs.Ytdobileefcidjaa.M
open Go.RowKit Go.Shelf
set_option linter.unusedVariables false
set_option linter.unusedSectionVars false
set_option linter.unusedSimpArgs false
attribute [local go_sem ↓] Go.wp_at_zero Go.wp_at_succ
theorem own_addr (a : Option Addr) (n c n' c' : Nat) : (Value.slice a n c).ownBlock = (Value.slice a n' c').ownBlock := by cases a <;> rfl
def nothing : Ending := .returned (.tuple #[])
set_option maxHeartbeats 1000000 in
theorem put_raw (Q T : Nat) (cs : Array Value) (t : TypeId) (a : Option Addr) (c : Nat) (vals : List Value) (ax : Option Addr) (nx cx : Nat) (w : World) (hQ : w.heap[Q]? = some (.cells cs t)) (ht : t ≠ 36) (h0 : cs[0]? = some (.slice a vals.length c)) (hq : OwnQ w 36 (.slice a vals.length c) vals) (hK : vals.length ≤ 1000000)
    (hT : w.cell? ⟨T, 0, none⟩ = some (.slice ax nx cx)) :
    Calls Try.prog 33 #[.pointer (some ⟨Q, 0, none⟩), .slice (some ⟨T, 0, none⟩) 1 1] w fun e w' => e = nothing ∧ ∃ a' c', w'.heap[Q]? = some (.cells (cs.setIfInBounds 0 (.slice a' (vals.length + 1) c')) t) ∧ OwnQ w' 36 (.slice a' (vals.length + 1) c') (vals ++ [.slice ax nx cx]) ∧ (∀ b, (Value.slice a' (vals.length + 1) c').ownBlock = some b → (Value.slice a vals.length c).ownBlock = some b ∨ w.heap.size ≤ b) ∧ But (Q :: (Value.slice a vals.length c).ownBlock.toList) w w' := by
  obtain ⟨i0, hi, hz0, hz1, hz2⟩ := info_parts (show (Try.prog.info? 36).map (fun i => (i.zero, i.size, i.bytes)) = some (some (.slice none 0 0), 1, 24) by kernel_rfl)
  have hQb : ∀ b, (Value.slice a vals.length c).ownBlock = some b → Q ≠ b := fun b hb e => by
    subst e
    obtain ⟨cur, hg⟩ := hq.tag _ hb
    rw [hQ] at hg
    simp only [Option.some.injEq, Obj.cells.injEq] at hg
    exact ht hg.2.1
  have c0 : w.cell? ⟨Q, 0, none⟩ = some (.slice a vals.length c) := by unfold World.cell?; rw [hQ]; exact h0
  have hlt := lt_of hQ
  have HQ := Lib.hid hq
  have HSRC : Hid (Src Try.prog i0.size 35 (.slice (some ⟨T, 0, none⟩) 1 1) [Value.slice ax nx cx].length [Value.slice ax nx cx] w) := Lib.hid (by
    rw [hz1]
    exact Src.ofSlice _ Try.underlying35 _ 1 1 _ (by simp) (fun j u hj => by
      cases j with
      | zero => simp at hj; subst hj; rw [add_at]; exact hT
      | succ j => simp at hj) (by intro u hu; simp at hu; subst hu; rfl))
  have key : ∀ (v' : Value) (w5 : World), Appended w w5 36 (.slice a vals.length c) v' vals [.slice ax nx cx] → ∃ a' c', v' = Value.slice a' (vals.length + 1) c' ∧ (∃ u, w5.cell? ⟨Q, 0, none⟩ = some u) ∧ w5.frozen? ⟨Q, 0, none⟩ = false ∧ (w5.setCell ⟨Q, 0, none⟩ v').heap[Q]? = some (.cells (cs.setIfInBounds 0 v') t) ∧ OwnQ (w5.setCell ⟨Q, 0, none⟩ v') 36 v' (vals ++ [.slice ax nx cx]) ∧ (∀ b, v'.ownBlock = some b → (Value.slice a vals.length c).ownBlock = some b ∨ w.heap.size ≤ b) ∧ But (Q :: (Value.slice a vals.length c).ownBlock.toList) w (w5.setCell ⟨Q, 0, none⟩ v') := fun v' w5 hap => by
    obtain ⟨h1, h2⟩ := hap
    obtain ⟨a', c', e⟩ := h1.form
    have hx : But (Value.slice a vals.length c).ownBlock.toList w w5 ∧ (∀ b, v'.ownBlock = some b → (Value.slice a vals.length c).ownBlock = some b ∨ w.heap.size ≤ b) := by
      rcases h2 with ⟨a2, cap, e1, e2, _, hb⟩ | ⟨hn, hb⟩
      · refine ⟨hb, fun b hb' => .inl ?_⟩
        rw [e1]
        rw [e2] at hb'
        exact (own_addr _ _ _ _ _).trans hb'
      · refine ⟨hb.mono (by simp), fun b hb' => .inr ?_⟩
        rw [hn] at hb'
        cases hb'
        exact Nat.le_refl _
    have hQ5 : w5.heap[Q]? = some (.cells cs t) := hx.1.heap hQ (fun hm => hQb Q (by simpa using hm) rfl)
    have hs : But [Q] w5 (w5.setCell ⟨Q, 0, none⟩ v') := (But.refl _ _).setCell (.inl (by simp)) _
    refine ⟨a', c', by rw [e, List.length_append]; rfl, ⟨_, by unfold World.cell?; rw [hQ5]; exact h0⟩, ?_, ?_, h1.but hs (fun b hb hm => ?_), hx.2, ?_⟩
    · unfold World.frozen?; rw [hQ5]; simp
    · simp [World.setCell, Array.getElem?_modify, hQ5]
    · simp only [List.mem_singleton] at hm
      subst hm
      rcases hx.2 _ hb with h | h
      · exact hQb _ h rfl
      · omega
    · exact ((hx.1.mono (fun x hm => List.mem_cons_of_mem _ hm))).setCell (p := ⟨Q, 0, none⟩) (.inl (List.mem_cons_self ..)) _
  have KEY := Lib.hid key
  have hf0 : w.frozen? ⟨Q, 0, none⟩ = false := by unfold World.frozen?; rw [hQ]; simp
  clear hQ hq hQb key h0 hT
  go_enter Try.func33, Try.ntmps33
  go_wp2_with (at_builtin; refine wpList_append_row rfl _ _ 35 rfl 36 i0 (.slice none 0 0) 24 Try.underlying35 hi hz0 hz1 hz2 rfl _ vals rfl HQ.out [Value.slice ax nx cx] _ rfl HSRC.out (by unfold maxLen; simp only [List.length_cons, List.length_nil]; omega) (by simp only [List.length_cons, List.length_nil]; omega) ?_; intro v' w5 hap; obtain ⟨a5, c5', rfl, ⟨u5, gc5⟩, gf5, h5⟩ := KEY.out _ _ hap; have H5 := Lib.hid h5; clear hap h5)
  go_end0
  exact ⟨rfl, _, _, H5.out⟩
def nextAt (stack : Bool) (n : Nat) : Nat := if stack then n - 1 else 0
theorem next1 (w : World) : Calls Try.prog 25 #[] w fun e w' => e = .returned (.int .i64 0) ∧ w' = w := by
  go_enter Try.func25, Try.ntmps25
  go_wp2
  go_ret
  exact ⟨rfl, rfl⟩
theorem next2 (w : World) (B Q : Nat) (a : Option Addr) (n c : Nat) (hB : w.cell? ⟨B, 0, none⟩ = some (.pointer (some ⟨Q, 0, none⟩))) (hQ : w.cell? ⟨Q, 0, none⟩ = some (.slice a n c)) (h1 : 1 ≤ n) (h2 : n ≤ 1000000) : Calls Try.prog 26 #[.pointer (some ⟨B, 0, none⟩)] w fun e w' => e = .returned (.int .i64 ((n - 1 : Nat) : Int)) ∧ w' = w := by
  have e : ((n - 1 : Nat) : Int) = (n : Int) - 1 := by omega
  rw [e]
  have h3 : (1 : Int) ≤ n := by omega
  clear e
  go_enter Try.func26, Try.ntmps26
  go_wp2
  go_ret
  exact ⟨rfl, rfl⟩
end Go.Proofs.Ytdobileefcidjaa.M
