/-
  slices.Grow of none, slices.Concat of rows of bytes.
-/
import Derived.Test.YtddeckkcfcodbaaGreatCollect
import Derived.Lib.AppendZeros
namespace Go.Proofs.YtddeckkcfcodbaaGreat.M
open Go.RowKit Go.Shelf
set_option linter.unusedVariables false
set_option linter.unusedSectionVars false
set_option linter.unusedSimpArgs false
/-- What lies in blocks that are new. -/
def NewIn (w : World) (v : Value) : Prop := ∀ b, v.ownBlock = some b → w.heap.size ≤ b
set_option maxRecDepth 100000 in
set_option maxHeartbeats 2000000 in
theorem grow_nil (k : Nat) (hk : k ≤ 1000000000) (w : World) :
    Calls Tryz.prog 38 #[.slice none 0 0, .int .i64 k] w fun e w' => ∃ a c, e = .returned (.slice a 0 c) ∧ OwnQ w' 5 (.slice a 0 c) [] ∧ But [] w w' ∧ NewIn w (.slice a 0 c) := by
  obtain ⟨i0, ki, kz0, kz1, kz2⟩ := info_parts (show (Tryz.prog.info? 5).map (fun i => (i.zero, i.size, i.bytes)) = some (some (.int .u8 0), 1, 1) by kernel_rfl)
  have hk0 : (0 : Int) ≤ k := by omega
  have hk1 : (k : Int) ≤ 1000000000 := by omega
  by_cases h0 : k = 0
  · subst h0
    go_enter Tryz.func38, Tryz.ntmps38
    go_wp2_with fail
    go_ret
    exact ⟨none, 0, rfl, OwnQ.nil _ _, But.refl _ _, fun b h => by cases h⟩
  · have hkp : (0 : Int) < k := by omega
    have hr := fun W : World => Lib.run_append_nil_zeros (P := Tryz.prog) W 22 3 22 5 i0 (.int .u8 0) .i64 .i64 Tryz.underlying22 Tryz.underlying3 ki kz0 k (by omega) (by omega) (by omega) (by rw [kz2]; omega)
    go_enter Tryz.func38, Tryz.ntmps38
    go_wp2_with (at_builtin; refine Lib.wpList_append_run _ rfl _ _ _ _ rfl _ _ rfl rfl _ _ (hr _) ?_)
    go_ret
    have hge := grownCap_ge w k 0 5
    have hat := al_at w (Obj.cells (Builtin.zeroCells #[.int .u8 0] k ++ Builtin.zeroCells #[.int .u8 0] (grownCap w k 0 5 - k)) 5)
    refine ⟨_, _, rfl, .inr ⟨w.heap.size, 0, _, _, rfl, hat, Nat.zero_le _, grownCap_le_maxLen w k 0 _ (by unfold maxLen; omega), ?_, by simp⟩, ((But.refl [] w).alloc _).drew, fun b h => by cases h; exact Nat.le_refl _⟩
    simp only [Array.size_append, size_zeroCells, List.size_toArray, List.length_cons, List.length_nil]
    omega
/-- All rows, one behind the other. -/
def flat8 (rows : List Told8) : List Int := (rows.map Told8.bs).flatten
theorem flat8_take {rows : List Told8} {j : Nat} {x : Told8} (h : rows[j]? = some x) : flat8 (rows.take (j + 1)) = flat8 (rows.take j) ++ x.bs := by
  unfold flat8
  rw [List.take_add_one, h]
  simp
theorem flat8_len : ∀ {rows : List Told8}, (∀ x ∈ rows, x.bs.length = 8) → (flat8 rows).length = 8 * rows.length
  | [], _ => rfl
  | x :: rows, h => by
    have h1 := flat8_len (rows := rows) (fun y hy => h y (List.mem_cons_of_mem _ hy))
    unfold flat8 at h1 ⊢
    rw [List.map_cons, List.flatten_cons, List.length_append, h1, h x List.mem_cons_self, List.length_cons]
    omega
set_option maxRecDepth 100000 in
set_option maxHeartbeats 4000000 in
theorem concat_rows (rows : List Told8) (v : Value) (w : World) (hv : OwnQ w 22 v (rows.map Told8.v)) (hall : ∀ x ∈ rows, Has8 x w) (hl : rows.length ≤ 1000000) :
    Calls Tryz.prog 25 #[v] w fun e w' => ∃ a c, e = .returned (.slice a (8 * rows.length) c) ∧ OwnQ w' 5 (.slice a (8 * rows.length) c) (u8s (flat8 rows)) ∧ But [] w w' ∧ NewIn w (.slice a (8 * rows.length) c) := by
  obtain ⟨i0, ki, kz0, kz1, kz2⟩ := info_parts (show (Tryz.prog.info? 5).map (fun i => (i.zero, i.size, i.bytes)) = some (some (.int .u8 0), 1, 1) by kernel_rfl)
  obtain ⟨a0, c0, rfl⟩ := hv.form
  rw [List.length_map] at hv ⊢
  have HV := Lib.hid hv
  have HALL := Lib.hid hall
  have h8 : ∀ j, (flat8 (rows.take j)).length = 8 * (rows.take j).length := fun j => flat8_len (fun x hx => (hall x (List.mem_of_mem_take hx)).2)
  have H8 := Lib.hid h8
  have CELL : Hid (∀ (j : Nat) (x : Told8), rows[j]? = some x → ∃ g o, a0 = some ⟨g, o, none⟩ ∧ ∀ W, But [] w W → W.cell? ⟨g, o + j, none⟩ = some (.slice x.a 8 x.c)) := Lib.hid fun j x hx => by
    have hlt : j < rows.length := (List.getElem?_eq_some_iff.1 hx).1
    obtain ⟨g, o, rfl⟩ := hv.addr (by omega)
    refine ⟨g, o, rfl, fun W hb => ?_⟩
    have h := (hv.but hb (by simp)).cellAt (k := j) (u := x.v) (by rw [List.getElem?_map, hx]; rfl)
    exact h
  clear hv hall h8
  go_enter Tryz.func25, Tryz.ntmps25
  go_wp2_with fail
  go_loopw [3, 11] (fun ss ii wr => ∃ j : Nat, j ≤ rows.length ∧ ii = .int .i64 j ∧ ss = .int .i64 (8 * j : Nat) ∧ But [] w wr) (fun _ ii _ => rows.length - (intOf ii).toNat)
  case atStart => exact ⟨0, Nat.zero_le _, rfl, rfl, But.refl _ _⟩
  case round =>
    obtain ⟨j, hj, rfl, rfl, hb⟩ := hrel
    have HB := Lib.hid hb
    clear hb
    by_cases hlt : j < rows.length
    · obtain ⟨x, hx⟩ : ∃ x, rows[j]? = some x := ⟨_, List.getElem?_eq_getElem hlt⟩
      obtain ⟨g, o, rfl, hcell⟩ := CELL.out j x hx
      have hc := hcell wr HB.out
      have hj0 : (0 : Int) ≤ j := by omega
      have hj1 : (j : Int) < rows.length := by omega
      clear hcell
      go_wp2_with fail
      go_roundw
      case rel => exact ⟨j + 1, by omega, by go_num, by go_num, HB.out⟩
      case measure => simp [intOf]; omega
    · obtain rfl : j = rows.length := by omega
      go_wp2_with fail
      refine (grow_nil (8 * rows.length) (by omega) wr).mono ?_
      rintro e w2 ⟨a, c, rfl, hq, hb2, hn2⟩
      have HQ := Lib.hid hq
      have hb2' : But [] w w2 := HB.out.trans hb2 (by simp)
      have hn2' : NewIn w (.slice a 0 c) := fun b h => by have h1 := hn2 b h; have h2 := HB.out.size; omega
      have HB2 := Lib.hid hb2'
      have HN2 := Lib.hid hn2'
      clear hq hb2 hn2 hb2' hn2' HB
      go_wp2_with fail
      go_loopw [6, 27] (fun ss ii wr => ∃ (j : Nat) (a : Option Addr) (c : Nat), j ≤ rows.length ∧ ii = .int .i64 j ∧ ss = .slice a (8 * j) c ∧ OwnQ wr 5 (.slice a (8 * j) c) (u8s (flat8 (rows.take j))) ∧ But [] w wr ∧ NewIn w (.slice a (8 * j) c)) (fun _ ii _ => rows.length - (intOf ii).toNat)
      case atStart => exact ⟨0, a, c, Nat.zero_le _, rfl, rfl, HQ.out, HB2.out, HN2.out⟩
      case round =>
        obtain ⟨j, a, c, hj, rfl, rfl, hq, hb, hn⟩ := hrel
        have HB := Lib.hid hb
        have HQ := Lib.hid hq
        have HN := Lib.hid hn
        clear hb hq hn HB2 HN2
        by_cases hlt : j < rows.length
        · obtain ⟨x, hx⟩ : ∃ x, rows[j]? = some x := ⟨_, List.getElem?_eq_getElem hlt⟩
          obtain ⟨g, o, rfl, hcell⟩ := CELL.out j x hx
          have hc := hcell wr HB.out
          have hj0 : (0 : Int) ≤ j := by omega
          have hj1 : (j : Int) < rows.length := by omega
          have hx8 := HALL.out x (List.mem_of_getElem? hx)
          have HX := Lib.hid hx
          have hl8 : (u8s x.bs).length = 8 := by rw [u8s_len]; exact hx8.2
          have hlq : (u8s (flat8 (rows.take j))).length = 8 * j := by rw [u8s_len, H8.out j, List.length_take]; omega
          have HS : Hid (Src Tryz.prog i0.size 22 (.slice x.a 8 x.c) (u8s x.bs).length (u8s x.bs) wr) := Lib.hid (src_sees (P := Tryz.prog) Tryz.underlying22 kz1 (hx8.1.but HB.out (by simp)).sees (fun v hv => by simp only [u8s, List.mem_map] at hv; obtain ⟨n, _, rfl⟩ := hv; rfl))
          have KEY : Hid (∀ (v' : Value) (w' : World), Appended wr w' 5 (.slice a (8 * j) c) v' (u8s (flat8 (rows.take j))) (u8s x.bs) → ∃ a' c', v' = .slice a' (8 * (j + 1)) c' ∧ OwnQ w' 5 (.slice a' (8 * (j + 1)) c') (u8s (flat8 (rows.take (j + 1)))) ∧ But [] w w' ∧ NewIn w (.slice a' (8 * (j + 1)) c')) := Lib.hid fun v' w' hap => by
            have hle : (u8s (flat8 (rows.take (j + 1)))).length = 8 * (j + 1) := by rw [u8s_len, H8.out (j + 1), List.length_take]; omega
            rw [flat8_take HX.out, u8s_app] at hle ⊢
            obtain ⟨hq, hcs⟩ := hap
            obtain ⟨a', c', e⟩ := hq.form
            rw [hle] at e
            subst e
            refine ⟨a', c', rfl, hq, ?_⟩
            rcases hcs with ⟨a2, cap, e1, e2, _, hb2⟩ | ⟨hn2, hb2⟩
            · simp only [Value.slice.injEq] at e1 e2
              obtain ⟨rfl, _, rfl⟩ := e1
              obtain ⟨rfl, _, rfl⟩ := e2
              refine ⟨HB.out.trans hb2 (fun y hy => .inr (HN.out y (by simpa using hy))), fun b hb => HN.out b ?_⟩
              rw [← hb]
              exact own_same _ _ _ _ _
            · refine ⟨HB.out.trans hb2 (by simp), fun b hb => ?_⟩
              rw [hn2] at hb
              cases hb
              exact HB.out.size
          clear hcell hx hx8
          go_wp2_with (at_builtin; refine wpList_append_row (by rfl) _ _ 22 (by rfl) 5 i0 (.int .u8 0) 1 Tryz.underlying22 ki kz0 kz1 kz2 rfl _ (u8s (flat8 (rows.take j))) (by rfl) HQ.out (u8s x.bs) _ (by rfl) HS.out (by unfold maxLen; omega) (by omega) ?_; intro v' w' hap; obtain ⟨a', c', rfl, hg'⟩ := KEY.out _ _ hap; have HG' := Lib.hid hg'; clear hap hg')
          go_roundw
          case rel => exact ⟨j + 1, a', c', by omega, by go_num, rfl, HG'.out⟩
          case measure => simp [intOf]; omega
        · obtain rfl : j = rows.length := by omega
          have hq2 := HQ.out
          rw [List.take_length] at hq2
          have HQ2 := Lib.hid hq2
          clear hq2
          go_wp2_with fail
          go_ret
          exact ⟨a, c, rfl, HQ2.out, HB.out, HN.out⟩
end Go.Proofs.YtddeckkcfcodbaaGreat.M
