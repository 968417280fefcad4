/-
  Merged: Mark, Lent, Kept, Over.
-/
import Derived.Test.YtpoinhfkgnkedaaSame
import Derived.Test.YtpoinhfkgnkedaaGM
import Derived.OwnWalk
import Derived.StillTailTactics
import Derived.BigQuiet
import Derived.Deep.QuietTactic
import Derived.Test.YtpoinhfkgnkedaaGD
namespace Go.Proofs.Ytpoinhfkgnkedaa.M
open Go.RowKit
set_option linter.unusedVariables false
set_option linter.unusedSectionVars false
set_option linter.unusedSimpArgs false
def mkI (k i : Int) : Int := wrap64 (wrap64 (1000003 * wrap64 (k + 7)) + i)
theorem markI (k i : Int) (w : World) : Calls Try.prog 64 #[.int .i64 k, .int .i64 i] w fun e w' => e = .returned (.int .i64 (mkI k i)) ∧ w = w' := by
  go_enter Try.func64, Try.ntmps64
  go_wp2
  go_ret
  exact ⟨rfl, rfl⟩
theorem markB_ex : ∃ f : Int → Int → Int, ∀ (k i : Int) (w : World), Calls Try.prog 50 #[.int .i64 k, .int .i64 i] w fun e w' => e = .returned (.int .u8 (f k i)) ∧ w' = w := by
  refine ⟨fun k i => IntKind.u64.wrap (IntKind.u64.wrap (mkI k i) * 11400714819323198485) / 72057594037927936 % 256, fun k i w => ?_⟩
  go_enter Try.func50, Try.ntmps50
  go_wp2_with (go_at_call 64; refine (markI _ _ _).mono ?_; rintro e w1 ⟨rfl, rfl⟩)
  go_ret
  exact ⟨rfl, rfl⟩
/-- The mark of a byte: some number. -/
noncomputable def mb : Int → Int → Int := Classical.choose markB_ex
theorem markB' (k i : Int) (w : World) : Calls Try.prog 50 #[.int .i64 k, .int .i64 i] w fun e w' => e = .returned (.int .u8 (mb k i)) ∧ w' = w := Classical.choose_spec markB_ex k i w
theorem markB (k i : Int) (w : World) : Calls Try.prog 50 #[.int .i64 k, .int .i64 i] w fun e w' => e = .returned (.int .u8 (mb k i)) ∧ w = w' := (markB' k i w).mono fun _ _ ⟨h1, h2⟩ => ⟨h1, h2.symm⟩
end Go.Proofs.Ytpoinhfkgnkedaa.M
namespace Go.Proofs.Ytpoinhfkgnkedaa.M
open Go.RowKit
set_option linter.unusedVariables false
set_option linter.unusedSectionVars false
set_option linter.unusedSimpArgs false
noncomputable def marks (k n : Nat) : List Value := (List.range n).map fun i : Nat => Value.int .u8 (mb k i)
theorem marks_len (k n : Nat) : (marks k n).length = n := by simp [marks]
theorem marks_succ (k n : Nat) : marks k (n + 1) = marks k n ++ [.int .u8 (mb k n)] := by simp [marks, List.range_succ]
theorem marks_at {k n i : Nat} (h : i < n) : (marks k n)[i]? = some (.int .u8 (mb k i)) := by simp [marks, h]
theorem marks_bytes (k n : Nat) : IsBytes (marks k n) := fun u hu => by
  obtain ⟨i, _, rfl⟩ := List.mem_map.1 hu
  exact ⟨_, rfl⟩
/-- What was lent: a row of one's own with twelve marks behind. -/
def Lent (w : World) (v : Value) (xs : List Value) : Prop := ∃ g, v = .slice (some ⟨g, 0, none⟩) xs.length (xs.length + 12) ∧ Own w (.slice (some ⟨g, 0, none⟩) (xs.length + 12) (xs.length + 12)) (xs ++ marks 1 12)
theorem Lent.form {w : World} {v : Value} {xs : List Value} (h : Lent w v xs) : ∃ g, v = .slice (some ⟨g, 0, none⟩) xs.length (xs.length + 12) := by
  obtain ⟨g, e, _⟩ := h
  exact ⟨g, e⟩
theorem Lent.sees {w : World} {v : Value} {xs : List Value} (h : Lent w v xs) : Sees w v xs := by
  obtain ⟨g, rfl, h⟩ := h
  rcases h.sees with ⟨h, _⟩ | ⟨ad, c, h1, hc, hx⟩
  · cases h
  · simp only [Value.slice.injEq, Option.some.injEq] at h1
    obtain ⟨rfl, _, _⟩ := h1
    exact .inr ⟨⟨g, 0, none⟩, _, rfl, by omega, fun j u hj => hx j u (by rw [List.getElem?_append_left (List.getElem?_eq_some_iff.1 hj).1]; exact hj)⟩
theorem Lent.but {L : List Nat} {w w' : World} {v : Value} {xs : List Value} (h : Lent w v xs) (hb : But L w w') (hn : ∀ k, v.ownBlock = some k → k ∉ L) : Lent w' v xs := by
  obtain ⟨g, rfl, h⟩ := h
  exact ⟨g, rfl, h.but hb hn⟩
theorem Lent.tag {w : World} {v : Value} {xs : List Value} (h : Lent w v xs) : ∀ k, v.ownBlock = some k → ∃ cur, w.heap[k]? = some (.cells cur 5) ∧ cur.size = xs.length + 12 := fun k hk => by
  obtain ⟨g, rfl, h⟩ := h
  cases hk
  rcases h.2 with ⟨h, _⟩ | ⟨g', cap, cur, h1, _, hg, hc, hm, hs, _⟩
  · cases h
  · simp only [Value.slice.injEq, Option.some.injEq, Addr.mk.injEq, and_true] at h1
    obtain ⟨rfl, _, rfl⟩ := h1
    exact ⟨cur, hg, by rw [hs, Nat.mul_one]⟩
set_option maxRecDepth 100000 in
set_option maxHeartbeats 1000000 in
theorem lent (s : Value) (xs : List Value) (w : World) (hs : Sees w s xs) (hx : IsBytes xs) (hl : xs.length ≤ 140737488351232) :
    Calls Try.prog 21 #[s] w fun e w' => ∃ v, e = .returned v ∧ Lent w' v xs ∧ v.ownBlock = some w.heap.size ∧ But [] w w' := by
  obtain ⟨i0, hi, hz0, hz1, hz2⟩ := info_parts (show (Try.prog.info? 5).map (fun i => (i.zero, i.size, i.bytes)) = some (some (.int .u8 0), 1, 1) by kernel_rfl)
  obtain ⟨a, c, rfl, hat⟩ := sees_shape hs
  have hnn : a = none → xs.length = 0 ∧ c = 0 := fun e => by
    subst e
    rcases hs with ⟨h, h0⟩ | ⟨ad, c, h, _⟩
    · simp only [Value.slice.injEq] at h
      exact ⟨by rw [h0]; rfl, h.2.2⟩
    · cases h
  have HN := Lib.hid hnn
  have HAT := Lib.hid hat
  have H1 := Lib.hid hx.one
  have hmk : ∀ w, (Instr.makeSlice 26 (.int .i64 0) (.int .i64 ((xs.length : Int) + 12))).run Try.prog w = .ok (.slice (some ⟨w.heap.size, 0, none⟩) 0 (xs.length + 12)) (w.alloc (.cells (madeCells #[.int .u8 0] (xs.length + 12)) 5)) := fun w => by
    have h := run_make (P := Try.prog) w 26 5 i0 (.int .u8 0) Try.underlying26 hi hz0 .i64 .i64 0 ((xs.length : Int) + 12) (by omega) (by omega) (by rw [hz2]; omega) (by omega)
    rw [h, hz1, Nat.mul_one]
    rfl
  have hown0 : (w.alloc (.cells (madeCells #[.int .u8 0] (xs.length + 12)) 5)).ownsRow 0 5 1 (.slice (some ⟨w.heap.size, 0, none⟩) 0 (xs.length + 12)) 0 [] :=
    World.ownsRow_made w _ (xs.length + 12) (Nat.zero_le _) (by unfold maxLen; omega) (by rw [size_madeCells, Nat.mul_one])
  have HO := Lib.hid hown0
  have hb0 : But [] w (w.alloc (.cells (madeCells #[.int .u8 0] (xs.length + 12)) 5)) := (But.refl _ _).alloc _
  have HB := Lib.hid hb0
  clear hs hx hat hnn hown0 hb0
  go_enter Try.func21, Try.ntmps21
  go_wp2_with (at_builtin; refine wpList_append_fits_any _ rfl _ _ 26 rfl 0 5 i0 1 Try.underlying26 hi hz1 w.heap.size 0 (xs.length + 12) [] rfl HO.out a xs.length c xs rfl (by omega) HN.out (fun ad e j u hj => by
      obtain ⟨ad', e', hc⟩ := HAT.out j u hj
      rw [e] at e'
      cases e'
      exact cell_but HB.out hc (by simp)) H1.out (by omega) ?_; intro w1 hown1 hgrow1)
  have HO1 : Hid (Own w1 (.slice (some ⟨w.heap.size, 0, none⟩) (xs.length + 0) (xs.length + 12)) (xs ++ marks 1 0)) := Lib.hid (by
    rw [Nat.zero_add] at hown1
    simpa [Own, marks] using hown1)
  have HB1 : Hid (But [] w w1) := Lib.hid (HB.out.grown hgrow1 (fun k hk => .inr (by cases hk; exact Nat.le_refl _)))
  clear hown1 hgrow1 HO HB HAT HN H1
  go_loopw [3, 4] (fun o i wr => ∃ k : Nat, k ≤ 12 ∧ i = .int .i64 k ∧ o = .slice (some ⟨w.heap.size, 0, none⟩) (xs.length + k) (xs.length + 12) ∧ Own wr o (xs ++ marks 1 k) ∧ But [] w wr) (fun _ i _ => 12 - (intOf i).toNat)
  case atStart => exact ⟨0, by omega, rfl, by simp, HO1.out, HB1.out⟩
  case round =>
    obtain ⟨k, hk, rfl, rfl, ho, hb⟩ := hrel
    have HO := Lib.hid ho
    have HB := Lib.hid hb
    clear ho hb HO1 HB1
    by_cases hlt : k < 12
    · have hlen : (xs ++ marks 1 k).length = xs.length + k := by rw [List.length_append, marks_len]
      have HL := Lib.hid hlen
      have HOW : Hid ((wr.alloc (.cells #[.int .u8 (mb 1 k)] 5)).ownsRow 0 5 1 (.slice (some ⟨w.heap.size, 0, none⟩) (xs.length + k) (xs.length + 12)) (xs.length + k) (xs ++ marks 1 k)) := Lib.hid (by
        have h := HO.out.but ((But.refl [] wr).alloc (.cells #[.int .u8 (mb 1 k)] 5)) (by simp)
        unfold Own at h
        rw [HL.out] at h
        exact h)
      clear hlen
      go_wp2_with (first | (go_at_call 50; refine (markB _ _ _).mono ?_; rintro e w1 ⟨rfl, rfl⟩) | (at_builtin; refine wpList_append_fits _ rfl _ _ 26 rfl 0 5 i0 1 Try.underlying26 hi hz1 w.heap.size (xs.length + k) (xs.length + 12) (xs ++ marks 1 k) rfl HOW.out ⟨wr.heap.size, 0, none⟩ 1 1 [.int .u8 (mb 1 k)] rfl rfl (cell_one_new _ _ _) (by intro u hu; simp at hu; subst hu; rfl) (by omega) ?_; intro w2 hown2 hgrow2))
      have hb2 : But [] w w2 := (HB.out.alloc _).grown hgrow2 (fun k hk => .inr (by cases hk; exact Nat.le_refl _))
      have ho2 : Own w2 (.slice (some ⟨w.heap.size, 0, none⟩) (xs.length + (k + 1)) (xs.length + 12)) (xs ++ marks 1 (k + 1)) := by
        unfold Own
        rw [marks_succ, ← List.append_assoc, List.length_append, HL.out]
        exact hown2
      have HB2 := Lib.hid hb2
      have HO2 := Lib.hid ho2
      clear hb2 ho2 hown2 hgrow2
      go_roundw
      case rel => exact ⟨k + 1, by omega, by go_num, rfl, HO2.out, HB2.out⟩
      case measure => simp [intOf]; omega
    · obtain rfl : k = 12 := by omega
      go_wp2_with fail
      go_ret
      exact ⟨_, rfl, ⟨_, rfl, HO.out⟩, rfl, HB.out⟩
end Go.Proofs.Ytpoinhfkgnkedaa.M
namespace Go.Proofs.Ytpoinhfkgnkedaa.M
open Go.RowKit
set_option linter.unusedVariables false
set_option linter.unusedSectionVars false
set_option linter.unusedSimpArgs false
set_option maxRecDepth 100000 in
set_option maxHeartbeats 2000000 in
theorem kept (v s : Value) (xs : List Value) (w : World) (hv : Lent w v xs) (hs : Sees w s xs) (hx : IsBytes xs) (hl : xs.length ≤ 140737488351232) :
    Calls Try.prog 31 #[v, s] w fun e w' => e = .returned (.bool true) ∧ But [] w w' := by
  obtain ⟨g, rfl, ho⟩ := hv
  obtain ⟨a, c, rfl, hat⟩ := sees_shape hs
  have hcell : ∀ j u, (xs ++ marks 1 12)[j]? = some u → w.cell? ⟨g, j, none⟩ = some u := fun j u hj => by
    have := World.ownsRow.cells ho (g := g) rfl j u hj
    rw [add_at, Nat.zero_add] at this
    exact this
  have HC := Lib.hid hcell
  have HAT := Lib.hid hat
  have HX := Lib.hid hx
  clear ho hs hat hcell hx
  go_enter Try.func31, Try.ntmps31
  go_wp2_with fail
  go_loopw [6] (fun i wr => ∃ k : Nat, k ≤ xs.length + 12 ∧ i = .int .i64 k ∧ But [] w wr) (fun i _ => xs.length + 12 - (intOf i).toNat)
  case atStart => exact ⟨0, by omega, rfl, But.refl _ _⟩
  case round =>
    obtain ⟨k, hk, rfl, hb⟩ := hrel
    have HB := Lib.hid hb
    have hk0 : (0 : Int) ≤ k := by omega
    by_cases hlt : k < xs.length
    · obtain ⟨u, hu⟩ : ∃ u, xs[k]? = some u := ⟨_, List.getElem?_eq_getElem hlt⟩
      obtain ⟨n, rfl⟩ := HX.out u (List.mem_of_getElem? hu)
      obtain ⟨ad, rfl, hc⟩ := HAT.out k _ hu
      have c1 : wr.cell? ⟨g, k, none⟩ = some (.int .u8 n) := cell_but hb (HC.out k _ (by rw [List.getElem?_append_left hlt]; exact hu)) (by simp)
      have c2 : wr.cell? (ad.add k) = some (.int .u8 n) := cell_but hb hc (by simp)
      have d1 : decide (k < xs.length) = true := by simpa using hlt
      have d2 : decide (xs.length ≤ k) = false := by simpa using hlt
      have i1 : (k : Int) < xs.length := by omega
      have i2 : (k : Int) < (xs.length : Int) + 12 := by omega
      clear hb hu hc
      go_wp2_with fail
      go_quiet (fail)
      go_wp2_with fail
      go_roundw
      case rel => exact ⟨k + 1, by omega, by go_num, HB.out.drewN _⟩
      case measure => simp [intOf]; omega
    · by_cases hlt2 : k < xs.length + 12
      · have hu : (xs ++ marks 1 12)[k]? = some (.int .u8 (mb 1 ((k : Int) - xs.length))) := by
          rw [List.getElem?_append_right (by omega), marks_at (by omega)]
          congr 3
          omega
        have c1 : wr.cell? ⟨g, k, none⟩ = some (.int .u8 (mb 1 ((k : Int) - xs.length))) := cell_but hb (HC.out k _ hu) (by simp)
        have d1 : decide (k < xs.length) = false := by simpa using hlt
        have d2 : decide (xs.length ≤ k) = true := by simp; omega
        have i2 : (k : Int) < (xs.length : Int) + 12 := by omega
        have s1 : IntKind.i64.wrap ((k : Int) - xs.length) = (k : Int) - xs.length := IntWalk.i64_in _ (by omega)
        clear hb hu
        go_wp2_with fail
        go_quiet ((go_at_call 50; exact Calls.quiet_of_same (markB' _ _ _)))
        go_wp2_with fail
        go_roundw
        case rel => exact ⟨k + 1, by omega, by go_num, HB.out.drewN _⟩
        case measure => simp [intOf]; omega
      · obtain rfl : k = xs.length + 12 := by omega
        go_wp2_with fail
        go_ret
        exact ⟨rfl, hb⟩
end Go.Proofs.Ytpoinhfkgnkedaa.M
namespace Go.Proofs.Ytpoinhfkgnkedaa.M
open Go.RowKit
set_option linter.unusedVariables false
set_option linter.unusedSectionVars false
set_option linter.unusedSimpArgs false
theorem over_nil (w : World) : Calls Try.prog 25 #[.slice none 0 0] w fun e w' => e = .returned (.tuple #[]) ∧ But [] w w' := by
  go_enter Try.func25, Try.ntmps25
  go_wp2_with fail
  refine wp_loop_rounds 1 ?_
  rw [rounds_succ]
  go_wp2_with fail
  go_end0
  exact ⟨rfl, But.refl _ _⟩
set_option maxRecDepth 100000 in
set_option maxHeartbeats 2000000 in
theorem over_some1 (g o n c : Nat) (cur : Array Value) (w : World) (hg : w.heap[g]? = some (.cells cur 5 (0, 0))) (hs : o + c ≤ cur.size) (hn : n ≤ c) (hc : c ≤ 1000000000000000) (hq : (c : Int) ≤ n + 12) :
    Calls Try.prog 25 #[.slice (some ⟨g, o, none⟩) n c] w fun e w' => e = .returned (.tuple #[]) ∧ But [g] w w' := by
  have HG := Lib.hid hg
  have hlt := lt_of hg
  clear hg
  go_enter Try.func25, Try.ntmps25
  go_wp2_with fail
  go_loopw [3] (fun i wr => ∃ k : Nat, k ≤ c ∧ i = .int .i64 k ∧ (∃ cu, wr.heap[g]? = some (.cells cu 5 (0, 0)) ∧ cu.size = cur.size) ∧ But [g] w wr) (fun i _ => c - (intOf i).toNat)
  case atStart => exact ⟨0, Nat.zero_le _, rfl, ⟨cur, HG.out, rfl⟩, But.refl _ _⟩
  case round =>
    obtain ⟨k, hk, rfl, ⟨cu, hcu, hsz⟩, hb⟩ := hrel
    have HB := Lib.hid hb
    have HC := Lib.hid hcu
    have HZ := Lib.hid hsz
    clear hb hcu hsz
    by_cases hlt2 : k < c
    · have hk0 : (0 : Int) ≤ k := by omega
      have hki : (k : Int) < (c : Int) := by omega
      have hks : o + k < cu.size := by rw [HZ.out]; omega
      have c1 : wr.cell? ⟨g, o + k, none⟩ = some (cu[o + k]'hks) := by
        unfold World.cell?
        rw [HC.out]
        simp [hks]
      have f1 : wr.frozen? ⟨g, o + k, none⟩ = false := by
        unfold World.frozen?
        rw [HC.out]
        simp
      go_wp2_with (go_at_call 50; refine (markB _ _ _).mono ?_; rintro e w1 ⟨rfl, rfl⟩)
      go_roundw
      case rel => exact ⟨k + 1, by omega, by go_num, ⟨cu.setIfInBounds (o + k) (.int .u8 (mb 2 k)), by simp [World.setCell, Array.getElem?_modify, HC.out], by simpa using HZ.out⟩, HB.out.setCell (.inl (by simp)) _⟩
      case measure => simp [intOf]; omega
    · obtain rfl : k = c := by omega
      go_wp2_with fail
      go_end0
      exact ⟨rfl, HB.out⟩
set_option maxRecDepth 100000 in
set_option maxHeartbeats 2000000 in
theorem over_some2 (g o n c : Nat) (cur : Array Value) (w : World) (hg : w.heap[g]? = some (.cells cur 5 (0, 0))) (hs : o + c ≤ cur.size) (hn : n ≤ c) (hc : c ≤ 1000000000000000) (hq : ¬ (c : Int) ≤ n + 12) :
    Calls Try.prog 25 #[.slice (some ⟨g, o, none⟩) n c] w fun e w' => e = .returned (.tuple #[]) ∧ But [g] w w' := by
  have HG := Lib.hid hg
  have hlt := lt_of hg
  have e : ((n : Int) + 12).toNat = n + 12 := by omega
  clear hg
  go_enter Try.func25, Try.ntmps25
  go_wp2_with fail
  go_loopw [3] (fun i wr => ∃ k : Nat, k ≤ n + 12 ∧ i = .int .i64 k ∧ (∃ cu, wr.heap[g]? = some (.cells cu 5 (0, 0)) ∧ cu.size = cur.size) ∧ But [g] w wr) (fun i _ => n + 12 - (intOf i).toNat)
  case atStart => exact ⟨0, Nat.zero_le _, rfl, ⟨cur, HG.out, rfl⟩, But.refl _ _⟩
  case round =>
    obtain ⟨k, hk, rfl, ⟨cu, hcu, hsz⟩, hb⟩ := hrel
    have HB := Lib.hid hb
    have HC := Lib.hid hcu
    have HZ := Lib.hid hsz
    clear hb hcu hsz
    by_cases hlt2 : k < n + 12
    · have hk0 : (0 : Int) ≤ k := by omega
      have hki : (k : Int) < (n : Int) + 12 := by omega
      have hks : o + k < cu.size := by rw [HZ.out]; omega
      have c1 : wr.cell? ⟨g, o + k, none⟩ = some (cu[o + k]'hks) := by
        unfold World.cell?
        rw [HC.out]
        simp [hks]
      have f1 : wr.frozen? ⟨g, o + k, none⟩ = false := by
        unfold World.frozen?
        rw [HC.out]
        simp
      go_wp2_with (go_at_call 50; refine (markB _ _ _).mono ?_; rintro e w1 ⟨rfl, rfl⟩)
      go_roundw
      case rel => exact ⟨k + 1, by omega, by go_num, ⟨cu.setIfInBounds (o + k) (.int .u8 (mb 2 k)), by simp [World.setCell, Array.getElem?_modify, HC.out], by simpa using HZ.out⟩, HB.out.setCell (.inl (by simp)) _⟩
      case measure => simp [intOf]; omega
    · obtain rfl : k = n + 12 := by omega
      go_wp2_with fail
      go_end0
      exact ⟨rfl, HB.out⟩
theorem over_some (g o n c : Nat) (cur : Array Value) (w : World) (hg : w.heap[g]? = some (.cells cur 5 (0, 0))) (hs : o + c ≤ cur.size) (hn : n ≤ c) (hc : c ≤ 1000000000000000) :
    Calls Try.prog 25 #[.slice (some ⟨g, o, none⟩) n c] w fun e w' => e = .returned (.tuple #[]) ∧ But [g] w w' := by
  by_cases h : (c : Int) ≤ n + 12
  · exact over_some1 g o n c cur w hg hs hn hc h
  · exact over_some2 g o n c cur w hg hs hn hc h
theorem over_lent {w : World} {v : Value} {xs : List Value} (h : Lent w v xs) (hl : xs.length ≤ 140737488351232) :
    Calls Try.prog 25 #[v] w fun e w' => e = .returned (.tuple #[]) ∧ But v.ownBlock.toList w w' := by
  obtain ⟨g, e⟩ := h.form
  subst e
  obtain ⟨cur, hg, hz⟩ := h.tag g rfl
  exact over_some g 0 _ _ cur w hg (by omega) (by omega) (by omega)
end Go.Proofs.Ytpoinhfkgnkedaa.M
