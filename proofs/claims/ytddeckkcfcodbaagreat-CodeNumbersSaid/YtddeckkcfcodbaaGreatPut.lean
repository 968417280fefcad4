/-
  code.Put of any slots.
-/
import Derived.Test.YtddeckkcfcodbaaGreatConcat
namespace Go.Proofs.YtddeckkcfcodbaaGreat.M
open Go.RowKit Go.Shelf
set_option linter.unusedVariables false
set_option linter.unusedSectionVars false
set_option linter.unusedSimpArgs false
theorem slots_c (a : Option Addr) (n c : Nat) (w : World) : Calls Tryz.prog 27 #[.slice a n c] w fun e w' => e = .returned (.func (.func 40) #[] #[.pointer (some ⟨w.heap.size, 0, none⟩)]) ∧ w' = w.alloc (.cells #[.slice a n c] 28) := by
  have hmf : ∀ (fn : Fn) (first cap : Array Value) (w : World), (Instr.makeFunc fn first cap).run Tryz.prog w = .ok (.func fn first cap) w := fun _ _ _ _ => rfl
  go_enter Tryz.func27, Tryz.ntmps27
  go_wp2_with fail
  go_ret
  exact ⟨rfl, rfl⟩
set_option maxRecDepth 100000 in
set_option maxHeartbeats 2000000 in
theorem collect_w (P : Nat) (s : Value) (prog : List Ins) (w : World) (hP : w.heap[P]? = some (.cells #[s] 28)) (hs : SeesI w s prog) (hok : ∀ x ∈ prog, InsOk x) (hl : prog.length ≤ 1000000) (hsn : ∀ b, s.ownBlock = some b → prog ≠ [] → b < w.heap.size) :
    CallsIn Fence.wide 9 Tryz.prog 26 #[.func (.func 40) #[] #[.pointer (some ⟨P, 0, none⟩)]] w (ColPost prog w) := by
  have H := Lib.hid (appendSeq_w 8 (Nat.le_refl _) P s prog w hP hs hok hl hsn)
  clear hP hs hok hl hsn
  refine callsIn_of_wp Tryz.func26 rfl trivial ?_ rfl
  simp only [Tryz.ntmps26, List.size_toArray, List.length_cons, List.length_nil, Nat.reduceAdd, Nat.reduceSub, Array.replicate_succ, Array.replicate_zero, List.push_toArray, List.append_toArray, List.nil_append, List.cons_append]
  gi_wp2
  refine ⟨trivial, ?_⟩
  refine H.out.mono ?_
  rintro e w1 h
  rcases id h with ⟨xs, a, c, rfl, _⟩ | ⟨_, he, _⟩
  · have HH := Lib.hid h
    clear h
    gi_wp2
    refine bodyPost_ret (results_tmp rfl _ _ _) rfl ?_
    exact HH.out
  · dsimp only [thrown] at he
    subst he
    exact ⟨rfl, h⟩
def goodB (x : Ins) : Bool := decide (x.dst < 16) && decide (x.src < 16)
theorem goodB_iff (x : Ins) : goodB x = true ↔ Good x := by simp [goodB, Good]
/-- The error, the bytes. -/
def putErr (l : List Ins) : Int := if 4096 < l.length then 3 else if l.all goodB then 0 else 21
def putRow (l : List Ins) : List Int := if putErr l = 0 then (l.map enc).flatten else []
theorem putErr_good {l : List Ins} (hl : l.length ≤ 4096) (h : ∀ x ∈ l, Good x) : putErr l = 0 := by
  unfold putErr
  rw [if_neg (by omega), if_pos (List.all_eq_true.2 fun x hx => (goodB_iff x).2 (h x hx))]
theorem putErr_bad {l : List Ins} (hl : l.length ≤ 4096) (h : ∃ x ∈ l, ¬ Good x) : putErr l = 21 := by
  unfold putErr
  obtain ⟨x, hx, hb⟩ := h
  rw [if_neg (by omega), if_neg (fun ha => hb ((goodB_iff x).1 (List.all_eq_true.1 ha x hx)))]
theorem putErr_long {l : List Ins} (hl : 4096 < l.length) : putErr l = 3 := by
  unfold putErr
  rw [if_pos hl]
/-- A row of bytes of one's own. -/
def RowAt (w : World) (B : Nat) (a : Option Addr) (n c : Nat) (r : List Int) : Prop := OwnQ w 5 (.slice a n c) (u8s r) ∧ ∀ b, (Value.slice a n c).ownBlock = some b → B ≤ b
/-- Behind Put's closure. -/
def Put1Post (l : List Ins) (w : World) (e : Ending) (w' : World) : Prop :=
  (putErr l = 0 ∧ ∃ a n c, e = .returned (.slice a n c) ∧ RowAt w' w.heap.size a n c (putRow l) ∧ But [] w w') ∨ (putErr l ≠ 0 ∧ e = thrown (putErr l) ∧ But [] w w')
set_option maxRecDepth 100000 in
set_option maxHeartbeats 4000000 in
theorem put1_c (P : Nat) (s : Value) (l : List Ins) (w : World) (hP : w.heap[P]? = some (.cells #[s] 28)) (hs : SeesI w s l) (hok : ∀ x ∈ l, InsOk x) (hl : l.length ≤ 1000000) (hsn : ∀ b, s.ownBlock = some b → l ≠ [] → b < w.heap.size) :
    Calls Tryz.prog 24 #[.pointer (some ⟨P, 0, none⟩)] w (Put1Post l w) := by
  obtain ⟨a, c, rfl, hsc⟩ := id hs
  have c0 : w.cell? ⟨P, 0, none⟩ = some (.slice a l.length c) := cl_of hP 0
  have hl0 : (0 : Int) ≤ l.length := by omega
  by_cases h4 : l.length ≤ 4096
  · have h4' : (l.length : Int) ≤ 4096 := by omega
    have hb1 : But [] w (w.alloc (.cells #[.slice a l.length c] 28)) := (But.refl [] w).alloc _
    have HC := Lib.hid (collect_w w.heap.size (.slice a l.length c) l (w.alloc (.cells #[.slice a l.length c] 28)) (al_at _ _) (hs.but hb1 (by simp)) hok hl (fun b hb hne => by have := hsn b hb hne; rw [size_alloc]; omega))
    clear hP hs hok hsn hsc
    have HB1 := Lib.hid hb1
    clear hb1
    go_enter Tryz.func24, Tryz.ntmps24
    go_wp2_with fail
    refine (must_yes 3 _).mono ?_
    rintro e w1 ⟨rfl, rfl⟩
    go_wp2_with fail
    refine (slots_c _ _ _ _).mono ?_
    rintro e w1 ⟨rfl, rfl⟩
    go_wp2_with fail
    have hcc := callsIn_wide.1 HC.out
    refine hcc.mono ?_
    clear hcc
    intro e w2 h2
    unfold ColPost at h2
    rcases h2 with ⟨xs, a2, c2, rfl, hS, hx3, hx4, hb2⟩ | ⟨hbad, he, hb2⟩
    · unfold SAll at hS
      obtain ⟨hx1, hx2⟩ := hS
      have hlen : xs.length = l.length := by simpa using congrArg List.length hx1
      have hcon := (concat_rows xs (.slice a2 xs.length c2) w2 hx3 hx4 (by omega))
      rw [hlen] at hcon ⊢
      have HCON := Lib.hid hcon
      clear hcon
      have herr := putErr_good h4 hx2
      have hrow : u8s (flat8 xs) = u8s (putRow l) := by unfold putRow flat8; rw [if_pos herr, hx1]
      have HB2 := Lib.hid (HB1.out.trans hb2 (by simp))
      clear hx1 hx2 hx3 hx4 hb2
      go_wp2_with fail
      refine HCON.out.mono ?_
      rintro e w3 ⟨a3, c3, rfl, hq3, hb3, hn3⟩
      have HEND : Hid (Put1Post l w (.returned (.slice a3 (8 * l.length) c3)) w3) := Lib.hid (.inl ⟨herr, _, _, _, rfl, ⟨hrow ▸ hq3, fun b hb => by have h1 := hn3 b hb; have h2 := HB2.out.size; omega⟩, HB2.out.trans hb3 (by simp)⟩)
      clear hq3 hb3 hn3
      go_wp2_with fail
      go_ret
      exact HEND.out
    · dsimp only [thrown] at he
      subst he
      have herr := putErr_bad h4 hbad
      exact ⟨rfl, .inr ⟨by omega, by rw [herr]; rfl, HB1.out.trans hb2 (by simp)⟩⟩
  · have h4' : ¬ (l.length : Int) ≤ 4096 := by omega
    clear hP hs hok hsn hsc
    go_enter Tryz.func24, Tryz.ntmps24
    go_wp2_with fail
    refine (must_no 3 _).mono ?_
    rintro e w1 ⟨he, rfl⟩
    dsimp only [thrown] at he
    subst he
    have herr := putErr_long (l := l) (by omega)
    exact ⟨rfl, .inr ⟨by omega, by rw [herr]; rfl, But.refl _ _⟩⟩
/-- Behind Put. -/
def PutPost (l : List Ins) (w : World) (e : Ending) (w' : World) : Prop :=
  ∃ a n c, e = .returned (.tuple #[.slice a n c, .int .i64 (putErr l)]) ∧ RowAt w' w.heap.size a n c (putRow l) ∧ But [] w w'
set_option maxRecDepth 100000 in
set_option maxHeartbeats 4000000 in
theorem put_c (s : Value) (l : List Ins) (w : World) (hs : SeesI w s l) (hok : ∀ x ∈ l, InsOk x) (hl : l.length ≤ 1000000) (hsn : ∀ b, s.ownBlock = some b → l ≠ [] → b < w.heap.size) :
    Calls Tryz.prog 6 #[s] w (PutPost l w) := by
  have hmf : ∀ (fn : Fn) (first cap : Array Value) (w : World), (Instr.makeFunc fn first cap).run Tryz.prog w = .ok (.func fn first cap) w := fun _ _ _ _ => rfl
  obtain ⟨sa, sc, rfl, _⟩ := id hs
  obtain ⟨w1, hw1⟩ : ∃ w1, w1 = w.alloc (.cells #[.slice sa l.length sc] 28) := ⟨_, rfl⟩
  have hb1 : But [] w w1 := by rw [hw1]; exact (But.refl [] w).alloc _
  have hz1 : w1.heap.size = w.heap.size + 1 := by rw [hw1, size_alloc]
  have g0 : w1.heap[w.heap.size]? = some (.cells #[.slice sa l.length sc] 28) := by rw [hw1]; exact al_at w _
  have H1 := Lib.hid (fun w2 (hb2 : But [] w1 w2) => put1_c w.heap.size (.slice sa l.length sc) l w2 (hb2.heap g0 (by simp)) ((hs.but hb1 (by simp)).but hb2 (by simp)) hok hl (fun b hb hne => by have h1 := hsn b hb hne; have h2 := hb1.size; have h3 := hb2.size; omega))
  have HB1 := Lib.hid hb1
  have hl0 : (0 : Int) ≤ l.length := by omega
  have HW := Lib.hid hw1
  have HZ := Lib.hid hz1
  clear hw1 hb1 g0 hs hok hsn hz1
  by_cases herr : putErr l = 0
  · go_enter Tryz.func6, Tryz.ntmps6
    go_wp2_with fail
    rw [← HW.out]
    refine (triedSX 24 #[.pointer (some ⟨w.heap.size, 0, none⟩)] w1 (fun args w => by kernel_rfl) (fun a n c w3 => RowAt w3 (w1.heap.size + 2) a n c (putRow l) ∧ But [] w1 w3) (fun w2 hb2 hz2 => ?_)).mono ?_
    · refine (H1.out w2 hb2).mono ?_
      rintro e w3 (⟨_, a, n, c, rfl, hr, hb3⟩ | ⟨h, _⟩)
      · exact ⟨a, n, c, rfl, ⟨⟨hr.1, fun b hb => by have := hr.2 b hb; omega⟩, hb2.trans hb3 (by simp)⟩, [], hb3, by simp, by simp⟩
      · exact absurd herr h
    rintro e w' ⟨a, n, c, rfl, w3, ⟨hr, hb3⟩, hb4⟩
    have HP : Hid (PutPost l w (.returned (.tuple #[.slice a n c, .int .i64 (putErr l)])) w') := Lib.hid ⟨a, n, c, rfl, ⟨hr.1.but hb4 (fun b hb hm => by have := hr.2 b hb; simp at hm; omega), fun b hb => by have := hr.2 b hb; have := HB1.out.size; omega⟩, (HB1.out.trans hb3 (by simp)).trans hb4 (fun x hx => .inr (by have := HB1.out.size; simp at hx; omega))⟩
    rw [herr] at HP
    clear hr hb3 hb4
    go_wp2_with fail
    go_ret2
    exact HP.out
  · go_enter Tryz.func6, Tryz.ntmps6
    go_wp2_with fail
    rw [← HW.out]
    refine (triedSE 24 #[.pointer (some ⟨w.heap.size, 0, none⟩)] w1 (fun args w => by kernel_rfl) (putErr l) (fun w3 => But [] w1 w3) (fun w2 hb2 hz2 => ?_)).mono ?_
    · refine (H1.out w2 hb2).mono ?_
      rintro e w3 (⟨h, _⟩ | ⟨_, rfl, hb3⟩)
      · exact absurd h herr
      · exact ⟨rfl, hb2.trans hb3 (by simp), [], hb3, by simp, by simp⟩
    rintro e w' ⟨rfl, w3, hb3, hb4⟩
    have HP : Hid (PutPost l w (.returned (.tuple #[.slice none 0 0, .int .i64 (putErr l)])) w') := Lib.hid ⟨none, 0, 0, rfl, ⟨by unfold putRow; rw [if_neg herr]; exact OwnQ.nil _ _, fun b hb => by cases hb⟩, (HB1.out.trans hb3 (by simp)).trans hb4 (fun x hx => .inr (by have := HB1.out.size; simp at hx; omega))⟩
    clear hb3 hb4
    go_wp2_with fail
    go_ret2
    exact HP.out
end Go.Proofs.YtddeckkcfcodbaaGreat.M
