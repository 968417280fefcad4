/-
  'QueueNumbers' tells true: the walk.
-/
import Derived.Test.YtdobileefcidjaaQNumS
import Derived.Lib.SlBytesConst
import Derived.Laws.AppendOwn
import Derived.OpenShut
import Derived.Deep.DeepCutAuto
import Derived.Deep.CutBlock
namespace Go.Proofs.Ytdobileefcidjaa.M
open Go.RowKit Go.Shelf
set_option linter.unusedVariables false
set_option linter.unusedSectionVars false
set_option linter.unusedSimpArgs false
def nums9 : Array Value := #[.int .i64 (-9223372036854775808), .int .i64 (-1), .int .i64 0, .int .i64 1, .int .i64 2, .int .i64 4, .int .i64 1024, .int .i64 1025, .int .i64 9223372036854775807]
theorem nums_int (n : Nat) (h : n < 9) : ∃ x : Int, nums9[n]? = some (.int .i64 x) := by
  match n with
  | 0 => exact ⟨_, rfl⟩
  | 1 => exact ⟨_, rfl⟩
  | 2 => exact ⟨_, rfl⟩
  | 3 => exact ⟨_, rfl⟩
  | 4 => exact ⟨_, rfl⟩
  | 5 => exact ⟨_, rfl⟩
  | 6 => exact ⟨_, rfl⟩
  | 7 => exact ⟨_, rfl⟩
  | 8 => exact ⟨_, rfl⟩
  | n + 9 => omega
theorem wf_small (x : Int) (h1 : 0 ≤ x) (h2 : x ≤ 255) : (Lit.int .u8 x).wf = true := by
  simp only [Lit.wf, Bool.and_eq_true, decide_eq_true_eq]
  exact ⟨h1, h2⟩
set_option maxRecDepth 100000 in
set_option maxHeartbeats 8000000 in
theorem queueNumbers (w : World) : Calls Try.prog 5 #[] w fun e w' => e = .returned (.bool true) ∧ But [] w w' := by
  have kc := fun (w : World) (C : Array Value) (n c : Nat) => Lib.run_convert_bytes_const (P := Try.prog) w 36 5 C n c Try.underlying36 Try.underlying5
  have kc2 : ∀ (w : World) (o : Obj) (C : Array Value) (n c : Nat), (convert 36 36 (.slice (some ⟨w.heap.size + 1, 0, none⟩) n c)).run Try.prog ((w.alloc o).alloc (.cells C 5)) = .ok (.slice (some ⟨w.heap.size + 1, 0, none⟩) n c) ((w.alloc o).alloc (.cells C 5 (C.size, C.size + 1))) := fun w o C n c => by have h := kc (w.alloc o) C n c; rw [size_alloc] at h; exact h
  obtain ⟨j0, ki, kz0, kz1, kz2⟩ := info_parts (show (Try.prog.info? 40).map (fun i => (i.zero, i.size, i.bytes)) = some (some (.agg #[.int .i64 0, .slice none 0 0, .int .u64 0]), 3, 40) by kernel_rfl)
  obtain ⟨W0, hW0⟩ : ∃ W0, W0 = w.alloc (.cells #[.int .i64 (-9223372036854775808), .int .i64 (-1), .int .i64 0, .int .i64 1, .int .i64 2, .int .i64 4, .int .i64 1024, .int .i64 1025, .int .i64 9223372036854775807] 3) := ⟨_, rfl⟩
  have hb0 : But [] w W0 := by rw [hW0]; exact (But.refl [] w).alloc _
  have hnum : W0.heap[w.heap.size]? = some (.cells nums9 3) := by rw [hW0]; exact al_at w _
  have HW := Lib.hid hW0
  have HNUM := Lib.hid hnum
  have HB0 := Lib.hid hb0
  clear hW0 hnum hb0
  go_enter Try.func5, Try.ntmps5
  go_upto_block 0 with fail
  rw [← HW.out]
  clear HW
  go_cut [] (fun wx => But [] W0 wx)
  case first =>
    go_wp2_with fail
    go_loopw [2] (fun i wr => ∃ n : Nat, n ≤ 9 ∧ i = .int .i64 n ∧ But [] W0 wr) (fun i _ => 9 - (intOf i).toNat)
    case atStart => exact ⟨0, by omega, rfl, But.refl _ _⟩
    case round =>
      obtain ⟨n, hn, rfl, hb⟩ := hrel
      have HB := Lib.hid hb
      clear hb
      by_cases hlt : n < 9
      · obtain ⟨x, hx⟩ := nums_int n hlt
        have HX := Lib.hid hx
        clear hx
        have hn0 : (0 : Int) ≤ n := by omega
        have hn9 : (n : Int) < 9 := by omega
        go_wp2_with fail
        go_loopw [3] (fun k wr' => ∃ m : Nat, m ≤ 30 ∧ k = .int .i64 m ∧ But [] W0 wr') (fun k _ => 30 - (intOf k).toNat)
        case atStart => exact ⟨0, by omega, rfl, HB.out⟩
        case round =>
          obtain ⟨m, hm, rfl, hb⟩ := hrel
          have HB' := Lib.hid hb
          have c1 : wr.cell? ⟨w.heap.size, n, none⟩ = some (.int .i64 x) := cell_but hb (by rw [at_cells HNUM.out]; exact HX.out) (by simp)
          clear hb
          by_cases hlt2 : m < 30
          · have hm0 : (0 : Int) ≤ m := by omega
            have hm30 : (m : Int) < 30 := by omega
            have hwl := cell_lt c1
            go_upto_block 4 with fail
            go_cut [] (fun wx => ∃ kk key val ent : Int, wx.heap[wr.heap.size]? = some (.cells #[.int .u8 kk, .int .i64 key, .int .i64 val, .int .i64 ent] 24) ∧ (Lit.int .u8 kk).wf = true ∧ But [] W0 wx)
            case first =>
              go_wp2_with fail
              all_goals
                go_meet
                exact ⟨_, _, _, _, al_at _ _, wf_small _ (by omega) (by omega), (HB'.out.alloc _)⟩
            case rest =>
              obtain ⟨kk, key, val, ent, hbox, hwf, hbc⟩ := hcut
              have d0 : wc.cell? ⟨wr.heap.size, 0, none⟩ = some (.int .u8 kk) := cl_of hbox 0
              have d1 : wc.cell? ⟨wr.heap.size, 1, none⟩ = some (.int .i64 key) := cl_of hbox 1
              have d2 : wc.cell? ⟨wr.heap.size, 2, none⟩ = some (.int .i64 val) := cl_of hbox 2
              have d3 : wc.cell? ⟨wr.heap.size, 3, none⟩ = some (.int .i64 ent) := cl_of hbox 3
              have HWF := Lib.hid hwf
              have HBC := Lib.hid hbc
              clear hbox hwf hbc c1
              go_wp2_with fail
              refine (queueLives kk key val ent _ (deeds5 wc.heap.size (wc.heap.size + 1)) _ HWF.out (sees5 (al_keep (al_keep (al_at wc _) _) _) (al_keep (al_eq _ _ _ (by rw [size_alloc])) _) (al_eq _ _ _ (by rw [size_alloc, size_alloc]))) (by simp [deeds5])).mono ?_
              rintro e w5 ⟨rfl, hb5⟩
              have HB5 : Hid (But [] W0 w5) := Lib.hid ((((HBC.out.alloc _).alloc _).alloc _).trans hb5 (by simp))
              clear hb5
              go_wp2_with fail
              go_roundw
              case rel => exact ⟨m + 1, by omega, by go_num, HB5.out⟩
              case measure => simp [intOf]; omega
          · obtain rfl : m = 30 := by omega
            go_wp2_with fail
            go_roundw
            case rel => exact ⟨n + 1, by omega, by go_num, HB'.out⟩
            case measure => simp [intOf]; omega
      · obtain rfl : n = 9 := by omega
        go_wp2_with fail
        go_meet
        exact HB.out
  case rest =>
    have HB1 : Hid (But [] w wc) := Lib.hid (HB0.out.trans hcut (by simp))
    clear hcut
    go_upto_block 5 with fail
    go_cut [] (fun wx => But [] w wx)
    case first =>
      go_wp2_with fail
      go_loopw [5] (fun i wr => ∃ n : Nat, n ≤ 2 ∧ i = .int .i64 n ∧ But [] w wr) (fun i _ => 2 - (intOf i).toNat)
      case atStart => exact ⟨0, by omega, rfl, HB1.out⟩
      case round =>
        obtain ⟨n, hn, rfl, hb⟩ := hrel
        have HB2 := Lib.hid hb
        clear hb HB1
        by_cases hlt : n < 2
        · have hn0 : (0 : Int) ≤ n := by omega
          have hn2 : (n : Int) < 2 := by omega
          go_wp2_with fail
          go_loopw [6] (fun i wr => ∃ f : Nat, f ≤ 5 ∧ i = .int .u64 f ∧ But [] w wr) (fun i _ => 5 - (intOf i).toNat)
          case atStart => exact ⟨0, by omega, rfl, HB2.out⟩
          case round =>
            obtain ⟨f, hf, rfl, hb⟩ := hrel
            have HB3 := Lib.hid hb
            clear hb HB2
            by_cases hlt2 : f < 5
            · have hf0 : (0 : Int) ≤ f := by omega
              have hf5 : (f : Int) < 5 := by omega
              go_wp2_with fail
              go_loopw [7] (fun i wr => ∃ q : Nat, q ≤ 4 ∧ i = .int .i64 q ∧ But [] w wr) (fun i _ => 4 - (intOf i).toNat)
              case atStart => exact ⟨0, by omega, rfl, HB3.out⟩
              case round =>
                obtain ⟨q, hq, rfl, hb⟩ := hrel
                have HB4 := Lib.hid hb
                clear hb HB3
                by_cases hlt3 : q < 4
                · have hq0 : (0 : Int) ≤ q := by omega
                  have hq4 : (q : Int) < 4 := by omega
                  go_upto_block 11 with fail
                  go_cut [8] (fun lv wx => ∃ ds xs, DeedsIn w lv wx ds xs ∧ ds.length = 18 ∧ But [] w wx)
                  case first =>
                    have xs0nil : ∃ xs0 : List Value, xs0 = [] := ⟨_, rfl⟩
                    obtain ⟨xs0, hxs0⟩ := xs0nil
                    have HD0 : Hid (DeedsIn w (.slice none 0 0) wr [] xs0) := Lib.hid (by rw [hxs0]; exact DeedsIn.nil w wr)
                    have HL0 : Hid (([] : List Deed).length = 0) := Lib.hid rfl
                    have HB0 := HB4
                    clear hxs0
                    rcases (by omega : q = 0 ∨ 1 ≤ q) with rfl | hq1
                    · go_wp2_with fail
                      refine wp_loop_rounds 7 ?_
                      rw [rounds_succ]
                      have hwW : w.heap.size ≤ wr.heap.size := HB0.out.size
                      go_wp2_with (at_builtin; refine wpList_append_own _ (by rfl) _ _ 25 (by rfl) w.heap.size 40 j0 (.agg #[.int .i64 0, .slice none 0 0, .int .u64 0]) 3 40 Try.underlying25 ki kz0 kz1 kz2 (by rfl) (by decide) _ 0 xs0 (by rfl) (row_on3 HD0.out HL0.out _ _ _) ⟨wr.heap.size + 1 + 1, 0, none⟩ 3 3 [.int .i64 0, .slice (some ⟨wr.heap.size, 0, none⟩) 1 3, .int .u64 f, .int .i64 3, .slice none 0 0, .int .u64 0, .int .i64 0, .slice (some ⟨wr.heap.size + 1, 0, none⟩) 2 2, .int .u64 0] (by rfl) (by rfl) (news_on3 _ _ _ _ _) (by intro u hu; simp at hu; rcases hu with rfl | rfl | rfl | rfl | rfl | rfl | rfl | rfl | rfl <;> rfl) (by decide) (by decide) (by rw [size_alloc, size_alloc, size_alloc]; omega) ?_; intro v1 w1 hown hg hnil; have hk := more3 HD0.out HB0.out HL0.out 97 65 3 f 0 1 (by omega) rfl hown hg; clear hown hg hnil)
                      obtain ⟨a1, c1, e1, ds1, hD1, hL1, hB1⟩ := hk
                      subst e1
                      obtain ⟨xs1, hxs1⟩ : ∃ xs, xs = xs0 ++ newsOf wr.heap.size (wr.heap.size + 1) 1 f 3 0 := ⟨_, rfl⟩
                      rw [← hxs1] at hD1
                      have HD1 := Lib.hid hD1
                      have HL1 := Lib.hid hL1
                      have HB1 := Lib.hid hB1
                      clear hD1 hL1 hB1 hxs1 HD0 HL0 HB0 hwW
                      rw [rounds_succ]
                      have hwW : w.heap.size ≤ w1.heap.size := HB1.out.size
                      go_wp2_with (at_builtin; refine wpList_append_own _ (by rfl) _ _ 25 (by rfl) w.heap.size 40 j0 (.agg #[.int .i64 0, .slice none 0 0, .int .u64 0]) 3 40 Try.underlying25 ki kz0 kz1 kz2 (by rfl) (by decide) _ 3 xs1 (by rfl) (row_on3 HD1.out HL1.out _ _ _) ⟨w1.heap.size + 1 + 1, 0, none⟩ 3 3 [.int .i64 0, .slice (some ⟨w1.heap.size, 0, none⟩) 1 3, .int .u64 f, .int .i64 2, .slice none 0 0, .int .u64 0, .int .i64 0, .slice (some ⟨w1.heap.size + 1, 0, none⟩) 2 2, .int .u64 2] (by rfl) (by rfl) (news_on3 _ _ _ _ _) (by intro u hu; simp at hu; rcases hu with rfl | rfl | rfl | rfl | rfl | rfl | rfl | rfl | rfl <;> rfl) (by decide) (by decide) (by rw [size_alloc, size_alloc, size_alloc]; omega) ?_; intro v2 w2 hown hg hnil; have hk := more3 HD1.out HB1.out HL1.out 98 66 2 f 2 1 (by omega) rfl hown hg; clear hown hg hnil)
                      obtain ⟨a2, c2, e2, ds2, hD2, hL2, hB2⟩ := hk
                      subst e2
                      obtain ⟨xs2, hxs2⟩ : ∃ xs, xs = xs1 ++ newsOf w1.heap.size (w1.heap.size + 1) 1 f 2 2 := ⟨_, rfl⟩
                      rw [← hxs2] at hD2
                      have HD2 := Lib.hid hD2
                      have HL2 := Lib.hid hL2
                      have HB2 := Lib.hid hB2
                      clear hD2 hL2 hB2 hxs2 HD1 HL1 HB1 hwW
                      rw [rounds_succ]
                      have hwW : w.heap.size ≤ w2.heap.size := HB2.out.size
                      go_wp2_with (at_builtin; refine wpList_append_own _ (by rfl) _ _ 25 (by rfl) w.heap.size 40 j0 (.agg #[.int .i64 0, .slice none 0 0, .int .u64 0]) 3 40 Try.underlying25 ki kz0 kz1 kz2 (by rfl) (by decide) _ 6 xs2 (by rfl) (row_on3 HD2.out HL2.out _ _ _) ⟨w2.heap.size + 1 + 1, 0, none⟩ 3 3 [.int .i64 0, .slice (some ⟨w2.heap.size, 0, none⟩) 1 3, .int .u64 f, .int .i64 1, .slice none 0 0, .int .u64 0, .int .i64 0, .slice (some ⟨w2.heap.size + 1, 0, none⟩) 2 2, .int .u64 0] (by rfl) (by rfl) (news_on3 _ _ _ _ _) (by intro u hu; simp at hu; rcases hu with rfl | rfl | rfl | rfl | rfl | rfl | rfl | rfl | rfl <;> rfl) (by decide) (by decide) (by rw [size_alloc, size_alloc, size_alloc]; omega) ?_; intro v3 w3 hown hg hnil; have hk := more3 HD2.out HB2.out HL2.out 99 67 1 f 0 1 (by omega) rfl hown hg; clear hown hg hnil)
                      obtain ⟨a3, c3, e3, ds3, hD3, hL3, hB3⟩ := hk
                      subst e3
                      obtain ⟨xs3, hxs3⟩ : ∃ xs, xs = xs2 ++ newsOf w2.heap.size (w2.heap.size + 1) 1 f 1 0 := ⟨_, rfl⟩
                      rw [← hxs3] at hD3
                      have HD3 := Lib.hid hD3
                      have HL3 := Lib.hid hL3
                      have HB3 := Lib.hid hB3
                      clear hD3 hL3 hB3 hxs3 HD2 HL2 HB2 hwW
                      rw [rounds_succ]
                      have hwW : w.heap.size ≤ w3.heap.size := HB3.out.size
                      go_wp2_with (at_builtin; refine wpList_append_own _ (by rfl) _ _ 25 (by rfl) w.heap.size 40 j0 (.agg #[.int .i64 0, .slice none 0 0, .int .u64 0]) 3 40 Try.underlying25 ki kz0 kz1 kz2 (by rfl) (by decide) _ 9 xs3 (by rfl) (row_on3 HD3.out HL3.out _ _ _) ⟨w3.heap.size + 1 + 1, 0, none⟩ 3 3 [.int .i64 0, .slice (some ⟨w3.heap.size, 0, none⟩) 1 3, .int .u64 f, .int .i64 3, .slice none 0 0, .int .u64 0, .int .i64 0, .slice (some ⟨w3.heap.size + 1, 0, none⟩) 2 2, .int .u64 2] (by rfl) (by rfl) (news_on3 _ _ _ _ _) (by intro u hu; simp at hu; rcases hu with rfl | rfl | rfl | rfl | rfl | rfl | rfl | rfl | rfl <;> rfl) (by decide) (by decide) (by rw [size_alloc, size_alloc, size_alloc]; omega) ?_; intro v4 w4 hown hg hnil; have hk := more3 HD3.out HB3.out HL3.out 100 68 3 f 2 1 (by omega) rfl hown hg; clear hown hg hnil)
                      obtain ⟨a4, c4, e4, ds4, hD4, hL4, hB4⟩ := hk
                      subst e4
                      obtain ⟨xs4, hxs4⟩ : ∃ xs, xs = xs3 ++ newsOf w3.heap.size (w3.heap.size + 1) 1 f 3 2 := ⟨_, rfl⟩
                      rw [← hxs4] at hD4
                      have HD4 := Lib.hid hD4
                      have HL4 := Lib.hid hL4
                      have HB4 := Lib.hid hB4
                      clear hD4 hL4 hB4 hxs4 HD3 HL3 HB3 hwW
                      rw [rounds_succ]
                      have hwW : w.heap.size ≤ w4.heap.size := HB4.out.size
                      go_wp2_with (at_builtin; refine wpList_append_own _ (by rfl) _ _ 25 (by rfl) w.heap.size 40 j0 (.agg #[.int .i64 0, .slice none 0 0, .int .u64 0]) 3 40 Try.underlying25 ki kz0 kz1 kz2 (by rfl) (by decide) _ 12 xs4 (by rfl) (row_on3 HD4.out HL4.out _ _ _) ⟨w4.heap.size + 1 + 1, 0, none⟩ 3 3 [.int .i64 0, .slice (some ⟨w4.heap.size, 0, none⟩) 1 3, .int .u64 f, .int .i64 3, .slice none 0 0, .int .u64 0, .int .i64 0, .slice (some ⟨w4.heap.size + 1, 0, none⟩) 2 2, .int .u64 0] (by rfl) (by rfl) (news_on3 _ _ _ _ _) (by intro u hu; simp at hu; rcases hu with rfl | rfl | rfl | rfl | rfl | rfl | rfl | rfl | rfl <;> rfl) (by decide) (by decide) (by rw [size_alloc, size_alloc, size_alloc]; omega) ?_; intro v5 w5 hown hg hnil; have hk := more3 HD4.out HB4.out HL4.out 101 69 3 f 0 1 (by omega) rfl hown hg; clear hown hg hnil)
                      obtain ⟨a5, c5, e5, ds5, hD5, hL5, hB5⟩ := hk
                      subst e5
                      obtain ⟨xs5, hxs5⟩ : ∃ xs, xs = xs4 ++ newsOf w4.heap.size (w4.heap.size + 1) 1 f 3 0 := ⟨_, rfl⟩
                      rw [← hxs5] at hD5
                      have HD5 := Lib.hid hD5
                      have HL5 := Lib.hid hL5
                      have HB5 := Lib.hid hB5
                      clear hD5 hL5 hB5 hxs5 HD4 HL4 HB4 hwW
                      rw [rounds_succ]
                      have hwW : w.heap.size ≤ w5.heap.size := HB5.out.size
                      go_wp2_with (at_builtin; refine wpList_append_own _ (by rfl) _ _ 25 (by rfl) w.heap.size 40 j0 (.agg #[.int .i64 0, .slice none 0 0, .int .u64 0]) 3 40 Try.underlying25 ki kz0 kz1 kz2 (by rfl) (by decide) _ 15 xs5 (by rfl) (row_on3 HD5.out HL5.out _ _ _) ⟨w5.heap.size + 1 + 1, 0, none⟩ 3 3 [.int .i64 0, .slice (some ⟨w5.heap.size, 0, none⟩) 1 3, .int .u64 f, .int .i64 2, .slice none 0 0, .int .u64 0, .int .i64 0, .slice (some ⟨w5.heap.size + 1, 0, none⟩) 2 2, .int .u64 2] (by rfl) (by rfl) (news_on3 _ _ _ _ _) (by intro u hu; simp at hu; rcases hu with rfl | rfl | rfl | rfl | rfl | rfl | rfl | rfl | rfl <;> rfl) (by decide) (by decide) (by rw [size_alloc, size_alloc, size_alloc]; omega) ?_; intro v6 w6 hown hg hnil; have hk := more3 HD5.out HB5.out HL5.out 102 70 2 f 2 1 (by omega) rfl hown hg; clear hown hg hnil)
                      obtain ⟨a6, c6, e6, ds6, hD6, hL6, hB6⟩ := hk
                      subst e6
                      obtain ⟨xs6, hxs6⟩ : ∃ xs, xs = xs5 ++ newsOf w5.heap.size (w5.heap.size + 1) 1 f 2 2 := ⟨_, rfl⟩
                      rw [← hxs6] at hD6
                      have HD6 := Lib.hid hD6
                      have HL6 := Lib.hid hL6
                      have HB6 := Lib.hid hB6
                      clear hD6 hL6 hB6 hxs6 HD5 HL5 HB5 hwW
                      rw [rounds_succ]
                      go_wp2_with fail
                      go_meet
                      exact ⟨ds6, xs6, HD6.out, HL6.out, HB6.out⟩
                    · have hq1' : (1 : Int) ≤ q := by omega
                      have hq3 : q ≤ 3 := by omega
                      have hq3' : (q : Int) ≤ 3 := by omega
                      go_wp2_with fail
                      refine wp_loop_rounds 7 ?_
                      rw [rounds_succ]
                      have hwW : w.heap.size ≤ wr.heap.size := HB0.out.size
                      go_wp2_with (at_builtin; refine wpList_append_own _ (by rfl) _ _ 25 (by rfl) w.heap.size 40 j0 (.agg #[.int .i64 0, .slice none 0 0, .int .u64 0]) 3 40 Try.underlying25 ki kz0 kz1 kz2 (by rfl) (by decide) _ 0 xs0 (by rfl) (row_on3 HD0.out HL0.out _ _ _) ⟨wr.heap.size + 1 + 1, 0, none⟩ 3 3 [.int .i64 0, .slice (some ⟨wr.heap.size, 0, none⟩) q 3, .int .u64 f, .int .i64 3, .slice none 0 0, .int .u64 0, .int .i64 0, .slice (some ⟨wr.heap.size + 1, 0, none⟩) 2 2, .int .u64 0] (by rfl) (by rfl) (news_on3 _ _ _ _ _) (by intro u hu; simp at hu; rcases hu with rfl | rfl | rfl | rfl | rfl | rfl | rfl | rfl | rfl <;> rfl) (by decide) (by decide) (by rw [size_alloc, size_alloc, size_alloc]; omega) ?_; intro v1 w1 hown hg hnil; have hk := more3 HD0.out HB0.out HL0.out 97 65 3 f 0 q (by omega) rfl hown hg; clear hown hg hnil)
                      obtain ⟨a1, c1, e1, ds1, hD1, hL1, hB1⟩ := hk
                      subst e1
                      obtain ⟨xs1, hxs1⟩ : ∃ xs, xs = xs0 ++ newsOf wr.heap.size (wr.heap.size + 1) q f 3 0 := ⟨_, rfl⟩
                      rw [← hxs1] at hD1
                      have HD1 := Lib.hid hD1
                      have HL1 := Lib.hid hL1
                      have HB1 := Lib.hid hB1
                      clear hD1 hL1 hB1 hxs1 HD0 HL0 HB0 hwW
                      rw [rounds_succ]
                      have hwW : w.heap.size ≤ w1.heap.size := HB1.out.size
                      go_wp2_with (at_builtin; refine wpList_append_own _ (by rfl) _ _ 25 (by rfl) w.heap.size 40 j0 (.agg #[.int .i64 0, .slice none 0 0, .int .u64 0]) 3 40 Try.underlying25 ki kz0 kz1 kz2 (by rfl) (by decide) _ 3 xs1 (by rfl) (row_on3 HD1.out HL1.out _ _ _) ⟨w1.heap.size + 1 + 1, 0, none⟩ 3 3 [.int .i64 0, .slice (some ⟨w1.heap.size, 0, none⟩) q 3, .int .u64 f, .int .i64 2, .slice none 0 0, .int .u64 0, .int .i64 0, .slice (some ⟨w1.heap.size + 1, 0, none⟩) 2 2, .int .u64 2] (by rfl) (by rfl) (news_on3 _ _ _ _ _) (by intro u hu; simp at hu; rcases hu with rfl | rfl | rfl | rfl | rfl | rfl | rfl | rfl | rfl <;> rfl) (by decide) (by decide) (by rw [size_alloc, size_alloc, size_alloc]; omega) ?_; intro v2 w2 hown hg hnil; have hk := more3 HD1.out HB1.out HL1.out 98 66 2 f 2 q (by omega) rfl hown hg; clear hown hg hnil)
                      obtain ⟨a2, c2, e2, ds2, hD2, hL2, hB2⟩ := hk
                      subst e2
                      obtain ⟨xs2, hxs2⟩ : ∃ xs, xs = xs1 ++ newsOf w1.heap.size (w1.heap.size + 1) q f 2 2 := ⟨_, rfl⟩
                      rw [← hxs2] at hD2
                      have HD2 := Lib.hid hD2
                      have HL2 := Lib.hid hL2
                      have HB2 := Lib.hid hB2
                      clear hD2 hL2 hB2 hxs2 HD1 HL1 HB1 hwW
                      rw [rounds_succ]
                      have hwW : w.heap.size ≤ w2.heap.size := HB2.out.size
                      go_wp2_with (at_builtin; refine wpList_append_own _ (by rfl) _ _ 25 (by rfl) w.heap.size 40 j0 (.agg #[.int .i64 0, .slice none 0 0, .int .u64 0]) 3 40 Try.underlying25 ki kz0 kz1 kz2 (by rfl) (by decide) _ 6 xs2 (by rfl) (row_on3 HD2.out HL2.out _ _ _) ⟨w2.heap.size + 1 + 1, 0, none⟩ 3 3 [.int .i64 0, .slice (some ⟨w2.heap.size, 0, none⟩) q 3, .int .u64 f, .int .i64 1, .slice none 0 0, .int .u64 0, .int .i64 0, .slice (some ⟨w2.heap.size + 1, 0, none⟩) 2 2, .int .u64 0] (by rfl) (by rfl) (news_on3 _ _ _ _ _) (by intro u hu; simp at hu; rcases hu with rfl | rfl | rfl | rfl | rfl | rfl | rfl | rfl | rfl <;> rfl) (by decide) (by decide) (by rw [size_alloc, size_alloc, size_alloc]; omega) ?_; intro v3 w3 hown hg hnil; have hk := more3 HD2.out HB2.out HL2.out 99 67 1 f 0 q (by omega) rfl hown hg; clear hown hg hnil)
                      obtain ⟨a3, c3, e3, ds3, hD3, hL3, hB3⟩ := hk
                      subst e3
                      obtain ⟨xs3, hxs3⟩ : ∃ xs, xs = xs2 ++ newsOf w2.heap.size (w2.heap.size + 1) q f 1 0 := ⟨_, rfl⟩
                      rw [← hxs3] at hD3
                      have HD3 := Lib.hid hD3
                      have HL3 := Lib.hid hL3
                      have HB3 := Lib.hid hB3
                      clear hD3 hL3 hB3 hxs3 HD2 HL2 HB2 hwW
                      rw [rounds_succ]
                      have hwW : w.heap.size ≤ w3.heap.size := HB3.out.size
                      go_wp2_with (at_builtin; refine wpList_append_own _ (by rfl) _ _ 25 (by rfl) w.heap.size 40 j0 (.agg #[.int .i64 0, .slice none 0 0, .int .u64 0]) 3 40 Try.underlying25 ki kz0 kz1 kz2 (by rfl) (by decide) _ 9 xs3 (by rfl) (row_on3 HD3.out HL3.out _ _ _) ⟨w3.heap.size + 1 + 1, 0, none⟩ 3 3 [.int .i64 0, .slice (some ⟨w3.heap.size, 0, none⟩) q 3, .int .u64 f, .int .i64 3, .slice none 0 0, .int .u64 0, .int .i64 0, .slice (some ⟨w3.heap.size + 1, 0, none⟩) 2 2, .int .u64 2] (by rfl) (by rfl) (news_on3 _ _ _ _ _) (by intro u hu; simp at hu; rcases hu with rfl | rfl | rfl | rfl | rfl | rfl | rfl | rfl | rfl <;> rfl) (by decide) (by decide) (by rw [size_alloc, size_alloc, size_alloc]; omega) ?_; intro v4 w4 hown hg hnil; have hk := more3 HD3.out HB3.out HL3.out 100 68 3 f 2 q (by omega) rfl hown hg; clear hown hg hnil)
                      obtain ⟨a4, c4, e4, ds4, hD4, hL4, hB4⟩ := hk
                      subst e4
                      obtain ⟨xs4, hxs4⟩ : ∃ xs, xs = xs3 ++ newsOf w3.heap.size (w3.heap.size + 1) q f 3 2 := ⟨_, rfl⟩
                      rw [← hxs4] at hD4
                      have HD4 := Lib.hid hD4
                      have HL4 := Lib.hid hL4
                      have HB4 := Lib.hid hB4
                      clear hD4 hL4 hB4 hxs4 HD3 HL3 HB3 hwW
                      rw [rounds_succ]
                      have hwW : w.heap.size ≤ w4.heap.size := HB4.out.size
                      go_wp2_with (at_builtin; refine wpList_append_own _ (by rfl) _ _ 25 (by rfl) w.heap.size 40 j0 (.agg #[.int .i64 0, .slice none 0 0, .int .u64 0]) 3 40 Try.underlying25 ki kz0 kz1 kz2 (by rfl) (by decide) _ 12 xs4 (by rfl) (row_on3 HD4.out HL4.out _ _ _) ⟨w4.heap.size + 1 + 1, 0, none⟩ 3 3 [.int .i64 0, .slice (some ⟨w4.heap.size, 0, none⟩) q 3, .int .u64 f, .int .i64 3, .slice none 0 0, .int .u64 0, .int .i64 0, .slice (some ⟨w4.heap.size + 1, 0, none⟩) 2 2, .int .u64 0] (by rfl) (by rfl) (news_on3 _ _ _ _ _) (by intro u hu; simp at hu; rcases hu with rfl | rfl | rfl | rfl | rfl | rfl | rfl | rfl | rfl <;> rfl) (by decide) (by decide) (by rw [size_alloc, size_alloc, size_alloc]; omega) ?_; intro v5 w5 hown hg hnil; have hk := more3 HD4.out HB4.out HL4.out 101 69 3 f 0 q (by omega) rfl hown hg; clear hown hg hnil)
                      obtain ⟨a5, c5, e5, ds5, hD5, hL5, hB5⟩ := hk
                      subst e5
                      obtain ⟨xs5, hxs5⟩ : ∃ xs, xs = xs4 ++ newsOf w4.heap.size (w4.heap.size + 1) q f 3 0 := ⟨_, rfl⟩
                      rw [← hxs5] at hD5
                      have HD5 := Lib.hid hD5
                      have HL5 := Lib.hid hL5
                      have HB5 := Lib.hid hB5
                      clear hD5 hL5 hB5 hxs5 HD4 HL4 HB4 hwW
                      rw [rounds_succ]
                      have hwW : w.heap.size ≤ w5.heap.size := HB5.out.size
                      go_wp2_with (at_builtin; refine wpList_append_own _ (by rfl) _ _ 25 (by rfl) w.heap.size 40 j0 (.agg #[.int .i64 0, .slice none 0 0, .int .u64 0]) 3 40 Try.underlying25 ki kz0 kz1 kz2 (by rfl) (by decide) _ 15 xs5 (by rfl) (row_on3 HD5.out HL5.out _ _ _) ⟨w5.heap.size + 1 + 1, 0, none⟩ 3 3 [.int .i64 0, .slice (some ⟨w5.heap.size, 0, none⟩) q 3, .int .u64 f, .int .i64 2, .slice none 0 0, .int .u64 0, .int .i64 0, .slice (some ⟨w5.heap.size + 1, 0, none⟩) 2 2, .int .u64 2] (by rfl) (by rfl) (news_on3 _ _ _ _ _) (by intro u hu; simp at hu; rcases hu with rfl | rfl | rfl | rfl | rfl | rfl | rfl | rfl | rfl <;> rfl) (by decide) (by decide) (by rw [size_alloc, size_alloc, size_alloc]; omega) ?_; intro v6 w6 hown hg hnil; have hk := more3 HD5.out HB5.out HL5.out 102 70 2 f 2 q (by omega) rfl hown hg; clear hown hg hnil)
                      obtain ⟨a6, c6, e6, ds6, hD6, hL6, hB6⟩ := hk
                      subst e6
                      obtain ⟨xs6, hxs6⟩ : ∃ xs, xs = xs5 ++ newsOf w5.heap.size (w5.heap.size + 1) q f 2 2 := ⟨_, rfl⟩
                      rw [← hxs6] at hD6
                      have HD6 := Lib.hid hD6
                      have HL6 := Lib.hid hL6
                      have HB6 := Lib.hid hB6
                      clear hD6 hL6 hB6 hxs6 HD5 HL5 HB5 hwW
                      rw [rounds_succ]
                      go_wp2_with fail
                      go_meet
                      exact ⟨ds6, xs6, HD6.out, HL6.out, HB6.out⟩
                  case rest =>
                    obtain ⟨ds, xs, hD, hdl, hbc⟩ := hcut
                    obtain ⟨la, lc, rfl, -⟩ := hD.sees
                    have HD := Lib.hid hD
                    have HDL := Lib.hid hdl
                    have HBC := Lib.hid hbc
                    clear hD hdl hbc HB4
                    go_wp2_with fail
                    refine (queueLives _ _ _ _ _ ds _ (by first | exact wf_wrap _ _ | exact wf_small _ (by omega) (by omega)) HD.out.sees (by rw [HDL.out]; omega)).mono ?_
                    rintro e w5 ⟨rfl, hb5⟩
                    have HB5 : Hid (But [] w w5) := Lib.hid (HBC.out.trans hb5 (by simp))
                    clear hb5
                    go_wp2_with fail
                    go_roundw
                    case rel => exact ⟨q + 1, by omega, by go_num, HB5.out⟩
                    case measure => simp [intOf]; omega
                · obtain rfl : q = 4 := by omega
                  go_wp2_with fail
                  go_roundw
                  case rel => exact ⟨f + 1, by omega, by go_num, HB4.out⟩
                  case measure => simp [intOf]; omega
            · obtain rfl : f = 5 := by omega
              go_wp2_with fail
              go_roundw
              case rel => exact ⟨n + 1, by omega, by go_num, HB3.out⟩
              case measure => simp [intOf]; omega
        · obtain rfl : n = 2 := by omega
          go_wp2_with fail
          go_meet
          exact HB2.out
    case rest =>
      have HB6 := Lib.hid hcut
      clear hcut
      go_wp2_with fail
      refine (queueNil none 0 0 _ _).mono ?_
      rintro e w6 ⟨rfl, hb6⟩
      have HB7 : Hid (But [] w w6) := Lib.hid (HB6.out.trans hb6 (by simp))
      clear hb6
      go_wp2_with fail
      refine (queueLives 0 0 0 0 _ [] _ rfl ⟨none, 0, rfl, fun i d h => by simp at h⟩ (by simp)).mono ?_
      rintro e w7 ⟨rfl, hb7⟩
      have HB8 : Hid (But [] w w7) := Lib.hid (HB7.out.trans hb7 (by simp))
      clear hb7
      go_wp2_with fail
      refine (awake _).mono ?_
      rintro e w8 ⟨rfl, hb8⟩
      have HB9 : Hid (But [] w w8) := Lib.hid (HB8.out.trans hb8 (by simp))
      clear hb8
      go_wp2_with fail
      go_ret
      exact ⟨rfl, HB9.out⟩
theorem queueNumbers_walk (w : World) : Calls Try.prog 5 #[] w fun e w' => e = .returned (.bool true) ∧ Below w.heap.size w w' :=
  (queueNumbers w).mono fun _ _ ⟨he, hb⟩ => ⟨he, hb.below (Nat.le_refl _) (by simp)⟩
end Go.Proofs.Ytdobileefcidjaa.M
