/-
  'RingNumbers' tells true: the walk.
-/
import Derived.Test.YtlajffbjkgedhaaRNumA
import Derived.Test.YtlajffbjkgedhaaRingNil
import Derived.OpenShut
import Derived.Deep.DeepCutAuto
import Derived.Deep.CutBlock
namespace Go.Proofs.Ytlajffbjkgedhaa.M
open Go.RowKit
set_option linter.unusedVariables false
set_option linter.unusedSectionVars false
set_option linter.unusedSimpArgs false
def nums10 : Array Value := #[.int .i64 (-9223372036854775808), .int .i64 (-1), .int .i64 0, .int .i64 1, .int .i64 15, .int .i64 16, .int .i64 17, .int .i64 16384, .int .i64 16385, .int .i64 9223372036854775807]
theorem nums_int : ∀ i, i < 10 → ∃ x : Int, nums10[i]? = some (.int .i64 x)
  | 0, _ => ⟨_, rfl⟩
  | 1, _ => ⟨_, rfl⟩
  | 2, _ => ⟨_, rfl⟩
  | 3, _ => ⟨_, rfl⟩
  | 4, _ => ⟨_, rfl⟩
  | 5, _ => ⟨_, rfl⟩
  | 6, _ => ⟨_, rfl⟩
  | 7, _ => ⟨_, rfl⟩
  | 8, _ => ⟨_, rfl⟩
  | 9, _ => ⟨_, rfl⟩
  | n + 10, h => by omega
theorem wf_small (x : Int) (h1 : 0 ≤ x) (h2 : x ≤ 255) : (Lit.int .u8 x).wf = true := by
  simp only [Lit.wf, Bool.and_eq_true, decide_eq_true_eq]
  exact ⟨h1, h2⟩
theorem sees_zero {W : World} {g m k c : Nat} (h : W.heap[g]? = some (.cells (madeCells #[.int .u8 0] m) 5)) (hk : k ≤ m) (hc : k ≤ c) : Sees W (.slice (some ⟨g, 0, none⟩) k c) (List.replicate k (.int .u8 0)) :=
  .inr ⟨⟨g, 0, none⟩, c, by rw [List.length_replicate], by rw [List.length_replicate]; exact hc, fun j u hj => by
    rw [add_at, Nat.zero_add, cl_of h]
    rw [List.getElem?_replicate] at hj
    split at hj
    · rename_i hjk
      cases hj
      have hjm : j < m := by omega
      simp [madeCells, hjm, Nat.mod_one]
    · cases hj⟩
def abc : List Value := [.int .u8 97, .int .u8 98, .int .u8 99]
def deeds4 (g : Nat) : List Deed := [⟨true, .slice none 0 0, []⟩, ⟨false, .slice (some ⟨g, 0, none⟩) 3 3, abc⟩, ⟨false, .slice none 0 0, []⟩, ⟨true, .slice none 0 0, []⟩]
theorem sees4 {W : World} {g b : Nat} {f : Nat × Nat} (hg : W.heap[g]? = some (.cells #[.int .u8 97, .int .u8 98, .int .u8 99] 5 f)) (hb : W.heap[b]? = some (.cells #[.bool true, .slice none 0 0, .bool false, .slice (some ⟨g, 0, none⟩) 3 3, .bool false, .slice none 0 0, .bool true, .slice none 0 0] 39)) :
    SeesDeeds W (.slice (some ⟨b, 0, none⟩) 4 4) (deeds4 g) :=
  ⟨some ⟨b, 0, none⟩, 4, rfl, fun i d hd => by
    match i, hd with
    | 0, hd => simp [deeds4] at hd; subst hd; exact ⟨b, 0, rfl, cl_of hb _, cl_of hb _, .inl ⟨rfl, rfl⟩, (by intro u hu; cases hu), by simp⟩
    | 1, hd =>
      simp [deeds4] at hd; subst hd
      exact ⟨b, 0, rfl, cl_of hb _, cl_of hb _, .inr ⟨⟨g, 0, none⟩, 3, rfl, Nat.le_refl _, fun j u hj => by rw [add_at, Nat.zero_add, at_c hg]; simpa [abc] using hj⟩, (by intro u hu; simp [abc] at hu; rcases hu with rfl | rfl | rfl <;> exact ⟨_, rfl⟩), by simp [abc]⟩
    | 2, hd => simp [deeds4] at hd; subst hd; exact ⟨b, 0, rfl, cl_of hb _, cl_of hb _, .inl ⟨rfl, rfl⟩, (by intro u hu; cases hu), by simp⟩
    | 3, hd => simp [deeds4] at hd; subst hd; exact ⟨b, 0, rfl, cl_of hb _, cl_of hb _, .inl ⟨rfl, rfl⟩, (by intro u hu; cases hu), by simp⟩
    | j + 4, hd => simp [deeds4] at hd⟩
set_option maxRecDepth 100000 in
set_option maxHeartbeats 8000000 in
theorem ringNumbers (w : World) : Calls Try.prog 5 #[] w fun e w' => e = .returned (.bool true) ∧ But [] w w' := by
  have kc := fun (w : World) (C : Array Value) (n c : Nat) => Lib.run_convert_bytes_const (P := Try.prog) w 36 5 C n c Try.underlying36 Try.underlying5
  obtain ⟨i0, hi, hz0, hz1, hz2⟩ := info_parts (show (Try.prog.info? 5).map (fun i => (i.zero, i.size, i.bytes)) = some (some (.int .u8 0), 1, 1) by kernel_rfl)
  have hmk : ∀ w, (Instr.makeSlice 36 (.int .i64 65537) (.int .i64 65537)).run Try.prog w = .ok (.slice (some ⟨w.heap.size, 0, none⟩) 65537 65537) (w.alloc (.cells (madeCells #[.int .u8 0] 65537) 5)) := fun w => by
    have h := run_make (P := Try.prog) w 36 5 i0 (.int .u8 0) Try.underlying36 hi hz0 .i64 .i64 65537 65537 (by omega) (by omega) (by rw [hz2]; omega) (by omega)
    rw [h, hz1]
    rfl
  obtain ⟨W0, hW0⟩ : ∃ W0, W0 = w.alloc (.cells #[.int .i64 (-9223372036854775808), .int .i64 (-1), .int .i64 0, .int .i64 1, .int .i64 15, .int .i64 16, .int .i64 17, .int .i64 16384, .int .i64 16385, .int .i64 9223372036854775807] 3) := ⟨_, rfl⟩
  have hb0 : But [] w W0 := by rw [hW0]; exact (But.refl [] w).alloc _
  have hnum : W0.heap[w.heap.size]? = some (.cells nums10 3) := by rw [hW0]; exact al_at w _
  have HW := Lib.hid hW0
  have HNUM := Lib.hid hnum
  have HB0 := Lib.hid hb0
  have HMK := Lib.hid hmk
  clear hW0 hnum hb0 hi hz0 hz1 hz2 hmk
  go_enter Try.func5, Try.ntmps5
  go_upto_block 0 with fail
  rw [← HW.out]
  clear HW
  go_cut [] (fun wx => But [] W0 wx)
  case first =>
    go_wp2_with fail
    go_loopw [2] (fun i wr => ∃ n : Nat, n ≤ 10 ∧ i = .int .i64 n ∧ But [] W0 wr) (fun i _ => 10 - (intOf i).toNat)
    case atStart => exact ⟨0, by omega, rfl, But.refl _ _⟩
    case round =>
      obtain ⟨n, hn, rfl, hb⟩ := hrel
      have HB := Lib.hid hb
      clear hb
      by_cases hlt : n < 10
      · obtain ⟨x, hx⟩ := nums_int n hlt
        have HX := Lib.hid hx
        clear hx
        have hn0 : (0 : Int) ≤ n := by omega
        have hn9 : (n : Int) < 10 := by omega
        go_wp2_with fail
        go_loopw [3] (fun k wr' => ∃ m : Nat, m ≤ 30 ∧ k = .int .i64 m ∧ But [] W0 wr') (fun k _ => 30 - (intOf k).toNat)
        case atStart => exact ⟨0, by omega, rfl, HB.out⟩
        case round =>
          obtain ⟨m, hm, rfl, hb⟩ := hrel
          have HB' := Lib.hid hb
          have c1 : wr.cell? ⟨w.heap.size, n, none⟩ = some (.int .i64 x) := cell_but hb (by rw [at_c HNUM.out]; exact HX.out) (by simp)
          clear hb
          by_cases hlt2 : m < 30
          · have hm0 : (0 : Int) ≤ m := by omega
            have hm30 : (m : Int) < 30 := by omega
            have hwl := cell_lt c1
            go_upto_block 4 with fail
            go_cut [] (fun wx => ∃ kk key val ent : Int, wx.heap[wr.heap.size]? = some (.cells #[.int .u8 kk, .int .i64 key, .int .i64 val, .int .i64 ent] 24) ∧ (Lit.int .u8 kk).wf = true ∧ But [] W0 wx)
            case first =>
              go_wp2_with fail
              all_goals
                go_meet
                exact ⟨_, _, _, _, al_at _ _, wf_small _ (by omega) (by omega), (HB'.out.alloc _)⟩
            case rest =>
              obtain ⟨kk, key, val, ent, hbox, hwf, hbc⟩ := hcut
              have d0 : wc.cell? ⟨wr.heap.size, 0, none⟩ = some (.int .u8 kk) := cl_of hbox 0
              have d1 : wc.cell? ⟨wr.heap.size, 1, none⟩ = some (.int .i64 key) := cl_of hbox 1
              have d2 : wc.cell? ⟨wr.heap.size, 2, none⟩ = some (.int .i64 val) := cl_of hbox 2
              have d3 : wc.cell? ⟨wr.heap.size, 3, none⟩ = some (.int .i64 ent) := cl_of hbox 3
              have HWF := Lib.hid hwf
              have HBC := Lib.hid hbc
              clear hbox hwf hbc c1
              go_wp2_with fail
              refine (ringLives kk key val ent _ (deeds4 wc.heap.size) _ HWF.out (sees4 (al_keep (al_at wc _) _) (al_eq _ _ _ (by rw [size_alloc]))) (by simp [deeds4])).mono ?_
              rintro e w5 ⟨rfl, hb5⟩
              have HB5 : Hid (But [] W0 w5) := Lib.hid (((HBC.out.alloc _).alloc _).trans hb5 (by simp))
              clear hb5
              go_wp2_with fail
              go_roundw
              case rel => exact ⟨m + 1, by omega, by go_num, HB5.out⟩
              case measure => simp [intOf]; omega
          · obtain rfl : m = 30 := by omega
            go_wp2_with fail
            go_roundw
            case rel => exact ⟨n + 1, by omega, by go_num, HB'.out⟩
            case measure => simp [intOf]; omega
      · obtain rfl : n = 10 := by omega
        go_wp2_with fail
        go_meet
        exact HB.out
  case rest =>
    have HB1 : Hid (But [] w wc) := Lib.hid (HB0.out.trans hcut (by simp))
    clear hcut
    go_upto_block 5 with fail
    go_cut [] (fun wx => But [] w wx)
    case first =>
      go_wp2_with fail
      go_loopw [5] (fun i wr => ∃ r : Nat, 16 ≤ r ∧ r ≤ 34 ∧ i = .int .i64 r ∧ But [] w wr) (fun i _ => 34 - (intOf i).toNat)
      case atStart => exact ⟨16, by omega, by omega, rfl, HB1.out⟩
      case round =>
        obtain ⟨r, hr16, hr, rfl, hb⟩ := hrel
        have HB2 := Lib.hid hb
        clear hb HB1
        by_cases hlt : r < 34
        · have hr0 : (0 : Int) ≤ r := by omega
          have hr2 : (r : Int) < 34 := by omega
          go_wp2_with fail
          go_loopw [6] (fun i wr => ∃ n : Nat, n ≤ 30 ∧ i = .int .i64 n ∧ But [] w wr) (fun i _ => 30 - (intOf i).toNat)
          case atStart => exact ⟨0, by omega, rfl, HB2.out⟩
          case round =>
            obtain ⟨n, hn, rfl, hb⟩ := hrel
            have HB3 := Lib.hid hb
            clear hb HB2
            by_cases hlt2 : n < 30
            · have hn0 : (0 : Int) ≤ n := by omega
              have hn2 : (n : Int) < 30 := by omega
              go_wp2_with fail
              refine n23 _ hr16 hlt hlt2 ?_
              intro z7 z65 z66 z67 z68 z69 z70 z71 z72 z73 z74 z75 z76 z77 z78 z79 z80 z81 z82 z83 z84 w5 hE hb5
              obtain ⟨ds, hsd, hdl⟩ := hE
              obtain ⟨ea, ec, ez, -⟩ := id hsd
              rw [hdl] at ez
              subst ez
              have HSD := Lib.hid hsd
              have HDL := Lib.hid hdl
              have HB5 : Hid (But [] w w5) := Lib.hid (HB3.out.trans hb5 (by simp))
              clear hsd hb5 hdl
              go_wp2_with fail
              refine (ringLives 7 0 0 r _ ds _ (by decide) HSD.out (by have := HDL.out; omega)).mono ?_
              rintro e w6 ⟨rfl, hb6⟩
              have HB6 : Hid (But [] w w6) := Lib.hid (HB5.out.trans hb6 (by simp))
              clear hb6
              go_wp2_with fail
              go_roundw
              case rel => exact ⟨n + 1, by omega, by go_num, HB6.out⟩
              case measure => simp [intOf]; omega
            · obtain rfl : n = 30 := by omega
              go_wp2_with fail
              go_roundw
              case rel => exact ⟨r + 1, by omega, by omega, by go_num, HB3.out⟩
              case measure => simp [intOf]; omega
        · obtain rfl : r = 34 := by omega
          go_wp2_with fail
          go_meet
          exact HB2.out
    case rest =>
      have HB1 := Lib.hid hcut
      clear hcut
      go_wp2_with fail
      refine (new7 16384 _ (by omega) (by omega)).mono ?_
      rintro e w2 ⟨R, rfl, hS, hb2⟩
      have HS2 := Lib.hid hS
      have HB2 : Hid (But [] w w2) := Lib.hid (HB1.out.trans hb2 (by simp))
      have hmk2 := HMK.out w2
      clear hS hb2
      have HG3 := Lib.hid (al_at w2 (.cells (madeCells #[.int .u8 0] 65537) 5))
      have HB3 : Hid (But [] w (w2.alloc (.cells (madeCells #[.int .u8 0] 65537) 5))) := Lib.hid (HB2.out.alloc _)
      have HS3 := Lib.hid (HS2.out.keep ((But.refl [] w2).alloc (.cells (madeCells #[.int .u8 0] 65537) 5)))
      go_wp2_with fail
      refine (ringPut_ok (base := wc.heap.size) (n := 16384) (ls := []) (s := .slice (some ⟨w2.heap.size, 0, none⟩) 16376 65537) (xs := List.replicate 16376 (.int .u8 0)) HS3.out (by omega) (by omega) (by decide) (sees_zero HG3.out (by decide) (by decide)) (fun u hu => by obtain ⟨_, rfl⟩ := List.mem_replicate.1 hu; exact ⟨_, rfl⟩) (by rw [List.length_replicate]; decide) (by rw [List.length_replicate]; decide)).mono ?_
      rintro e w4 ⟨rfl, z1, hz, hzn, hS, hb⟩
      have hL := HS3.out.tops
      have hzw : w.heap.size ≤ wc.heap.size := HB1.out.size
      have HB4 : Hid (But [] w w4) := Lib.hid (HB3.out.trans hb (fun x hx => .inr (Nat.le_trans hzw (hL x hx))))
      have HS4 : Hid (RingS w4 wc.heap.size R 16384 [z1]) := Lib.hid hS
      have HU : Hid (used [z1] = 16384) := Lib.hid (by simp only [used, List.map_cons, List.map_nil, List.sum_cons, List.sum_nil, hz, List.length_replicate]; decide)
      clear hL hz hzn hS hb
      go_wp2_with fail
      refine (calls_val (HS4.out.room (by omega) (by omega) (by rw [HU.out]; omega)) (v' := .int .i64 0) (by rw [HU.out]; rfl)).mono ?_
      rintro e w5 ⟨rfl, hb⟩
      have HS5 := Lib.hid (HS4.out.keep hb)
      have HB5 : Hid (But [] w w5) := Lib.hid (HB4.out.trans hb (by simp))
      clear hb
      go_wp2_with fail
      refine (ringPut_full (base := wc.heap.size) (n := 16384) (ls := [z1]) HS5.out (by omega) (by omega) (by rw [HU.out]; omega) _ 65536 65536 (by omega) (by rw [HU.out]; omega)).mono ?_
      rintro e w6 ⟨rfl, hb⟩
      have HS6 := Lib.hid (HS5.out.keep hb)
      have HB6 : Hid (But [] w w6) := Lib.hid (HB5.out.trans hb (by simp))
      clear hb
      go_wp2_with fail
      refine (ringPut_long (base := wc.heap.size) (n := 16384) (ls := [z1]) HS6.out (by omega) _ 65537 65537 (by omega) (by omega)).mono ?_
      rintro e w7 ⟨rfl, hb⟩
      have HB7 : Hid (But [] w w7) := Lib.hid (HB6.out.trans hb (by simp))
      clear hb
      go_wp2_with fail
      refine (ringNil none 0 0 _).mono ?_
      rintro e w8 ⟨rfl, hb⟩
      have HB8 : Hid (But [] w w8) := Lib.hid (HB7.out.trans hb (by simp))
      clear hb
      go_wp2_with fail
      refine (awake _).mono ?_
      rintro e w9 ⟨rfl, hb⟩
      have HB9 : Hid (But [] w w9) := Lib.hid (HB8.out.trans hb (by simp))
      clear hb
      go_wp2_with fail
      go_ret
      exact ⟨rfl, HB9.out⟩
theorem ringNumbers_walk (w : World) : Calls Try.prog 5 #[] w fun e w' => e = .returned (.bool true) ∧ Below w.heap.size w w' :=
  (ringNumbers w).mono fun _ _ ⟨he, hb⟩ => ⟨he, hb.below (Nat.le_refl _) (by simp)⟩
end Go.Proofs.Ytlajffbjkgedhaa.M
