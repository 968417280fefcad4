/-
  code.Get of any bytes.
-/
import Derived.Test.YtddeckkcfcodbaaGreatGetA
namespace Go.Proofs.YtddeckkcfcodbaaGreat.M
open Go.RowKit Go.Shelf
set_option linter.unusedVariables false
set_option linter.unusedSectionVars false
set_option linter.unusedSimpArgs false
set_option maxRecDepth 100000 in
set_option maxHeartbeats 2000000 in
theorem get1_c (P : Nat) (a : Option Addr) (c : Nat) (bs : List Int) (w : World) (hP : w.heap[P]? = some (.cells #[.slice a bs.length c] 22)) (hs : SeesD w a c bs) (hr : ByteL bs) (hl : bs.length ≤ 1000000000) :
    Calls Tryz.prog 17 #[.pointer (some ⟨P, 0, none⟩)] w (Get1Post bs w) := by
  by_cases h1 : bs.length ≤ 32768
  · by_cases h2 : bs.length % 8 = 0
    · exact callsIn_wide.1 (get1_ok P (bs.length / 8) a c bs w hP hs hr (by omega) (by omega))
    · have c0 : w.cell? ⟨P, 0, none⟩ = some (.slice a bs.length c) := cl_of hP 0
      have HE : Hid (Get1Post bs w (thrown 4) w) := Lib.hid (.inr ⟨by unfold getErr; rw [if_neg (by omega), if_neg h2]; decide, by unfold getErr; rw [if_neg (by omega), if_neg h2], But.refl _ _⟩)
      have hl0 : (0 : Int) ≤ bs.length := by omega
      have hl1 : (bs.length : Int) ≤ 32768 := by omega
      have hrem : ¬ ((bs.length : Int).tmod 8 = 0) := by rw [Int.tmod_eq_emod_of_nonneg hl0]; omega
      have hrem2 : ¬ ((bs.length : Int) % 8 = 0) := by omega
      have hrem3 : ((bs.length : Int) % 8 == 0) = false := by simpa using hrem2
      clear hP hs hr h1 h2
      go_enter Tryz.func17, Tryz.ntmps17
      go_wp2_with fail
      refine (must_yes 3 _).mono ?_
      rintro e w1 ⟨rfl, rfl⟩
      go_wp2_with fail
      refine (must_no 4 _).mono ?_
      rintro e w1 ⟨he, rfl⟩
      have h := HE.out
      dsimp only [thrown] at he h
      subst he
      exact ⟨rfl, h⟩
  · have c0 : w.cell? ⟨P, 0, none⟩ = some (.slice a bs.length c) := cl_of hP 0
    have HE : Hid (Get1Post bs w (thrown 3) w) := Lib.hid (.inr ⟨by unfold getErr; rw [if_pos (by omega)]; decide, by unfold getErr; rw [if_pos (by omega)], But.refl _ _⟩)
    have hl1 : ¬ (bs.length : Int) ≤ 32768 := by omega
    clear hP hs hr h1
    go_enter Tryz.func17, Tryz.ntmps17
    go_wp2_with fail
    refine (must_no 3 _).mono ?_
    rintro e w1 ⟨he, rfl⟩
    have h := HE.out
    dsimp only [thrown] at he h
    subst he
    exact ⟨rfl, h⟩
/-- Behind Get. -/
def GetPost (bs : List Int) (w : World) (e : Ending) (w' : World) : Prop :=
  ∃ a n c, e = .returned (.tuple #[.slice a n c, .int .i64 (getErr bs.length)]) ∧ RowI w.heap.size w' (.slice a n c) (getRow bs) ∧ But [] w w'
set_option maxRecDepth 100000 in
set_option maxHeartbeats 4000000 in
theorem get_c (a : Option Addr) (c : Nat) (bs : List Int) (w : World) (hs : SeesD w a c bs) (hr : ByteL bs) (hl : bs.length ≤ 1000000000) :
    Calls Tryz.prog 5 #[.slice a bs.length c] w (GetPost bs w) := by
  have hmf : ∀ (fn : Fn) (first cap : Array Value) (w : World), (Instr.makeFunc fn first cap).run Tryz.prog w = .ok (.func fn first cap) w := fun _ _ _ _ => rfl
  obtain ⟨w1, hw1⟩ : ∃ w1, w1 = w.alloc (.cells #[.slice a bs.length c] 22) := ⟨_, rfl⟩
  have hb1 : But [] w w1 := by rw [hw1]; exact (But.refl [] w).alloc _
  have hz1 : w1.heap.size = w.heap.size + 1 := by rw [hw1, size_alloc]
  have g0 : w1.heap[w.heap.size]? = some (.cells #[.slice a bs.length c] 22) := by rw [hw1]; exact al_at w _
  have H1 := Lib.hid (fun w2 (hb2 : But [] w1 w2) => get1_c w.heap.size a c bs w2 (hb2.heap g0 (by simp)) ((hs.but hb1 (by simp)).but hb2 (by simp)) hr hl)
  have HB1 := Lib.hid hb1
  have hl0 : (0 : Int) ≤ bs.length := by omega
  have HW := Lib.hid hw1
  have HZ := Lib.hid hz1
  clear hw1 hb1 g0 hs hr hz1
  by_cases herr : getErr bs.length = 0
  · go_enter Tryz.func5, Tryz.ntmps5
    go_wp2_with fail
    rw [← HW.out]
    refine (triedRX 17 #[.pointer (some ⟨w.heap.size, 0, none⟩)] w1 (fun args w => by kernel_rfl) (fun a n c w3 => RowI (w1.heap.size + 2) w3 (.slice a n c) (getRow bs) ∧ But [] w1 w3) (fun w2 hb2 hz2 => ?_)).mono ?_
    · refine (H1.out w2 hb2).mono ?_
      rintro e w3 (⟨_, a, n, c, rfl, hr, hb3⟩ | ⟨h, _⟩)
      · exact ⟨a, n, c, rfl, ⟨hr.mono (by omega), hb2.trans hb3 (by simp)⟩, [], hb3, by simp, by simp⟩
      · exact absurd herr h
    rintro e w' ⟨a, n, c, rfl, w3, ⟨hr, hb3⟩, hb4⟩
    have HP : Hid (GetPost bs w (.returned (.tuple #[.slice a n c, .int .i64 (getErr bs.length)])) w') := Lib.hid ⟨a, n, c, rfl, (hr.but hb4 (fun b hb hm => by have := (hr.tag hb).1; simp at hm; omega)).mono (by have := HB1.out.size; omega), (HB1.out.trans hb3 (by simp)).trans hb4 (fun x hx => .inr (by have := HB1.out.size; simp at hx; omega))⟩
    rw [herr] at HP
    clear hr hb3 hb4
    go_wp2_with fail
    go_ret2
    exact HP.out
  · go_enter Tryz.func5, Tryz.ntmps5
    go_wp2_with fail
    rw [← HW.out]
    refine (triedRE 17 #[.pointer (some ⟨w.heap.size, 0, none⟩)] w1 (fun args w => by kernel_rfl) (getErr bs.length) (fun w3 => But [] w1 w3) (fun w2 hb2 hz2 => ?_)).mono ?_
    · refine (H1.out w2 hb2).mono ?_
      rintro e w3 (⟨h, _⟩ | ⟨_, rfl, hb3⟩)
      · exact absurd h herr
      · exact ⟨rfl, hb2.trans hb3 (by simp), [], hb3, by simp, by simp⟩
    rintro e w' ⟨rfl, w3, hb3, hb4⟩
    have HP : Hid (GetPost bs w (.returned (.tuple #[.slice none 0 0, .int .i64 (getErr bs.length)])) w') := Lib.hid ⟨none, 0, 0, rfl, by unfold getRow; rw [if_neg herr]; exact RowI.nil _ _, (HB1.out.trans hb3 (by simp)).trans hb4 (fun x hx => .inr (by have := HB1.out.size; simp at hx; omega))⟩
    clear hb3 hb4
    go_wp2_with fail
    go_ret2
    exact HP.out
end Go.Proofs.YtddeckkcfcodbaaGreat.M
