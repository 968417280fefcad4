/-
  The trie's reference: Keys.
-/
import Derived.Test.YtpoinhfkgnkedaaGF
import Derived.Deep.CutBlock
namespace Go.Proofs.Ytpoinhfkgnkedaa.M
open Go.RowKit
set_option linter.unusedVariables false
set_option linter.unusedSectionVars false
set_option linter.unusedSimpArgs false
attribute [local go_sem ↓] Go.wp_at_zero Go.wp_at_succ
theorem bytesLess_eq' (x y : List Int) : (Op.bytesLess (strOfNums x).toList (strOfNums y).toList = true) = (sby x < sby y) := by
  rw [show Op.bytesLess (strOfNums x).toList (strOfNums y).toList = decide (sby x < sby y) from bytesLess_eq _ _]
  simp
theorem sby_less (x y : List Int) : Op.bytesLess (strOfNums x).toList (strOfNums y).toList = Op.bytesLess (sby x) (sby y) := rfl
theorem up_ltK {k n K : Nat} (h : k < n) (h2 : n ≤ 8 * (K - 4)) (h3 : 5 ≤ K ∧ K ≤ 36) : k < 1000000000000 := by omega
theorem key_numsK {K : Nat} (h3 : 5 ≤ K ∧ K ≤ 36) : 4 ≤ K ∧ K ≤ 1000000 := by omega
theorem idx_ltK {k n K : Nat} (h : k < n) (h2 : n ≤ 8 * (K - 4)) (h3 : 5 ≤ K ∧ K ≤ 36) : 4 + k / 8 < K := by omega
theorem src_row1 {i0 : TypeInfo} (hz1 : i0.size = 1) (w5 : World) (v : Value) (hv : v.oneCell' = true) : Src Try.prog i0.size 39 (.slice (some ⟨w5.heap.size, 0, none⟩) 1 1) [v].length [v] (w5.alloc (.cells #[v] 26)) := by
  rw [hz1]
  refine Src.ofSlice _ Try.underlying39 _ 1 1 _ (by simp) (fun j u hj => ?_) (by intro u hu; simp at hu; subst hu; exact hv)
  cases j with
  | zero =>
    simp at hj
    subst hj
    rw [add_at]
    exact cl_of (al_at _ _) 0
  | succ j => simp at hj
theorem one_len1 {vals : List Value} {v : Value} (h : vals.length ≤ 1024) : vals.length + [v].length ≤ maxLen := by unfold maxLen; rw [List.length_singleton]; omega
theorem one_len2 {vals : List Value} {v : Value} (h : vals.length ≤ 1024) : (vals.length + [v].length) * 24 ≤ 140737488355328 := by rw [List.length_singleton]; omega
theorem mod_parts (k : Nat) : ∃ r, r < 8 ∧ k % 8 = r ∧ (k : Int) % 8 = (r : Int) := ⟨k % 8, by omega, rfl, by omega⟩
theorem sign_at {π : List Int} {k : Nat} {x : Int} (hx : π[k]? = some x) (h : k < (strOfNums (chs π)).size) (hx01 : x = 0 ∨ x = 1) : ((((strOfNums (chs π))[k]'h).toNat : Int)) = 48 + x := by
  have h1 : (strOfNums (chs π))[k]'h = ((chs π).map fun n => n.toNat.toUInt8).toArray[k]'h := rfl
  rw [h1]
  have h2 : (chs π)[k]? = some (48 + x) := by unfold chs; rw [List.getElem?_map, hx]; rfl
  obtain ⟨hk, e⟩ := List.getElem?_eq_some_iff.1 h2
  have h3 : ((chs π).map fun n => n.toNat.toUInt8).toArray[k]'h = (48 + x).toNat.toUInt8 := by simp [e]
  rw [h3]
  rcases hx01 with rfl | rfl <;> rfl
section
variable {w : World} {ok : Nat → Prop} {R K V N : Nat} {A : LSt} {rows : List (List Int)}
set_option maxRecDepth 100000 in
set_option maxHeartbeats 4000000 in
theorem RefL.keysR (h : RefL w ok R K V N A rows) (hA : ∀ x ∈ A, SignK K x.1) :
    Calls Try.prog 28 #[.pointer (some ⟨R, 0, none⟩)] w fun e w' => ∃ a c, e = .returned (.slice a A.length c) ∧ SeesRows w' (.slice a A.length c) (((sortS (A.map (·.1))).map fun cs => rowR K (unchs cs)).map u8s) ∧ But [] w w' := by
  obtain ⟨s0, sin, sz0, sz1, sz2⟩ := info_parts (show (Try.prog.info? 9).map (fun i => (i.zero, i.size, i.bytes)) = some (some (.string ⟨#[]⟩), 1, 16) by kernel_rfl)
  obtain ⟨la, lc, c4, hP, c1, -, -, hlt⟩ := h.slot
  have hn : A.length ≤ 1024 := Nat.le_trans h.len h.bounds.2.2.2
  have HKB := Lib.hid (fun x hx => (h.keys x hx).1)
  have HP := Lib.hid hP
  have H4 := Lib.hid c4
  have H1 := Lib.hid c1
  have HKK := Lib.hid h.bounds.1
  have HAA := Lib.hid hA
  clear h hP c4 c1 hA
  go_enter Try.func28, Try.ntmps28
  go_wp2_with fail
  go_loopw [3, 4] (fun so i wr => ∃ (k : Nat) (a : Option Addr) (c : Nat) (S : List (List Int)), k ≤ A.length ∧ i = .int .i64 k ∧ so = .slice a S.length c ∧ S = ((A.map (·.1)).take k).foldl insS [] ∧ S.length = k ∧ SortK w wr a c S) (fun _ i _ => A.length - (intOf i).toNat)
  case atStart => exact ⟨0, none, 0, [], Nat.zero_le _, rfl, rfl, rfl, rfl, SortK.nil w⟩
  case round =>
    obtain ⟨k, a, c, S, hkl, rfl, rfl, hS, hSl, hso⟩ := hrel
    have d4 : wr.cell? ⟨R, 4, none⟩ = some (.slice la A.length lc) := cell_but hso.but H4.out (by simp)
    have HSO := Lib.hid hso
    have HSS := Lib.hid hS
    have HSL := Lib.hid hSl
    clear hso hS hSl
    by_cases hlk : k < A.length
    · obtain ⟨hk0, hk1, hw1, hw2⟩ := find_nums hlk hn
      obtain ⟨x, hx⟩ : ∃ x, A[k]? = some x := ⟨_, List.getElem?_eq_getElem hlk⟩
      obtain ⟨g, rfl⟩ := HP.out.addr (by omega)
      have d1 := ((HP.out.but HSO.out.but (by simp)).at2 (enc_get hx)).1
      dsimp only at d1
      obtain ⟨b, hb⟩ : ∃ b, b = x.1 := ⟨_, rfl⟩
      rw [← hb] at d1
      have HB := Lib.hid hb
      have HX := Lib.hid hx
      have HLK := Lib.hid hlk
      clear hb hx hlk hkl
      have HSN : Hid (S.length ≤ 1024) := Lib.hid (by have := HSL.out; have := HLK.out; omega)
      go_upto_block 2 with fail
      go_cut [6] from 30 to 63 (fun i wx => ∃ n : Nat, i = .int .i64 n ∧ n ≤ S.length ∧ UpB S b n ∧ (∀ x, S[n]? = some x → befS x b = false) ∧ wx = wr)
      case first =>
        go_wp2_with fail
        go_loop [6] (fun i => ∃ n : Nat, n ≤ S.length ∧ i = .int .i64 n ∧ UpB S b n) (fun i => S.length - (intOf i).toNat)
        case atStart => exact ⟨0, Nat.zero_le _, rfl, fun i x hi => absurd hi (Nat.not_lt_zero _)⟩
        case round =>
          obtain ⟨n, hnl, rfl, hup⟩ := hrel
          have HUP := Lib.hid hup
          clear hup
          by_cases hlt2 : n < S.length
          · obtain ⟨hj0, hj1, hw3, hw4⟩ := find_nums hlt2 HSN.out
            obtain ⟨y, hy⟩ : ∃ y, S[n]? = some y := ⟨_, List.getElem?_eq_getElem hlt2⟩
            obtain ⟨gs, os, rfl⟩ := HSO.out.own.addr (Nat.zero_lt_of_lt hlt2)
            have d5 := sortAt HSO.out.own hy
            have z1 : (strOfNums y).size = y.length := str_len y
            have z2 : (strOfNums b).size = b.length := str_len b
            have HY := Lib.hid hy
            have HL2 := Lib.hid hlt2
            have HNL := Lib.hid hnl
            clear hy hlt2 hnl
            by_cases c1 : y.length < b.length
            · have f1 : decide (y.length < b.length) = true := decide_eq_true c1
              have HBF : Hid (befS y b = true) := Lib.hid ((befS_iff y b).2 (.inl c1))
              clear c1
              go_wp2_with fail
              go_round
              case rel => exact ⟨n + 1, HL2.out, by go_num, HUP.out.next HY.out HBF.out⟩
              case measure => first | exact find_meas HL2.out | exact (by rw [hw3]; exact find_meas HL2.out)
            have f1 : decide (y.length < b.length) = false := decide_eq_false c1
            by_cases c2 : y.length = b.length
            · have f2 : ((y.length : Int) == (b.length : Int)) = true := cast_eqb c2
              have f4 : decide ((y.length : Int) = (b.length : Int)) = true := decide_eq_true (by omega)
              cases c3 : Op.bytesLess (strOfNums y).toList (strOfNums b).toList with
              | true =>
                have HBF : Hid (befS y b = true) := Lib.hid ((befS_iff y b).2 (.inr ⟨c2, by rw [← bytesLess_eq'] ; exact c3⟩))
                clear c1 c2
                go_wp2_with fail
                go_round
                case rel => exact ⟨n + 1, HL2.out, by go_num, HUP.out.next HY.out HBF.out⟩
                case measure => first | exact find_meas HL2.out | exact (by rw [hw3]; exact find_meas HL2.out)
              | false =>
                have HBF : Hid (befS y b = false) := Lib.hid (by unfold befS; rw [f1, show Op.bytesLess (sby y) (sby b) = false from c3]; simp)
                clear c1 c2
                go_wp2_with fail
                go_meet
                exact ⟨n, rfl, HNL.out, HUP.out, fun z hz => (by rw [HY.out] at hz; cases hz; exact HBF.out), rfl⟩
            · have f2 : ((y.length : Int) == (b.length : Int)) = false := cast_neb c2
              have f4 : decide ((y.length : Int) = (b.length : Int)) = false := decide_eq_false (by omega)
              have HBF : Hid (befS y b = false) := Lib.hid (by unfold befS; rw [f1]; simp [c2])
              clear c1 c2
              go_wp2_with fail
              go_meet
              exact ⟨n, rfl, HNL.out, HUP.out, fun z hz => (by rw [HY.out] at hz; cases hz; exact HBF.out), rfl⟩
          · obtain rfl : n = S.length := num_eqR hnl hlt2
            clear hnl hlt2
            go_wp2_with fail
            go_meet
            exact ⟨_, rfl, Nat.le_refl _, HUP.out, fun z hz => (by rw [List.getElem?_eq_none (Nat.le_refl _)] at hz; cases hz), rfl⟩
      case rest =>
        obtain ⟨n, rfl, hnl, hup, hno, rfl⟩ := hcut
        have HINS := Lib.hid (ins_at hup hno hnl)
        have HNL := Lib.hid hnl
        clear hup hno
        have n0 : (0 : Int) ≤ (n : Int) := by omega
        have n1 : (n : Int) ≤ (S.length : Int) := by omega
        clear hnl
        rcases id HSO.out.own with ⟨e1, e2⟩ | ⟨gs, os, cap, cur, e1, _⟩
        · simp only [Value.slice.injEq] at e1
          obtain ⟨rfl, hl0, rfl⟩ := e1
          have hn0 : n = 0 := by have := HNL.out; omega
          subst hn0
          have HLZ : Hid (S.length = 0) := Lib.hid hl0
          have HS0 : Hid (S = []) := Lib.hid (List.eq_nil_of_length_eq_zero hl0)
          have HSRC : Hid (Src Try.prog s0.size 94 (.slice none 0 0) ((S.drop 0).map strV).length ((S.drop 0).map strV) (wc.alloc (.cells #[] 9))) := Lib.hid (by
            rw [HS0.out]
            exact src_sees (P := Try.prog) Try.underlying94 sz1 (xs := []) (.inl ⟨rfl, rfl⟩) (by simp))
          clear e2 hl0
          have HQ0 : Hid (OwnQ (wc.alloc (.cells #[] 9)) 9 (.slice (some ⟨wc.heap.size, 0, none⟩) 0 0) []) := Lib.hid (fresh_atL wc 9)
          have HSD : Hid (((S.drop 0).map strV).length ≤ 1024) := Lib.hid (by rw [List.length_map, List.length_drop]; have := HSN.out; omega)
          have HST : Hid (((S.take 0).map strV).length ≤ 1024) := Lib.hid (by rw [List.length_map, List.length_take]; have := HSN.out; omega)
          have HSI : Hid (((S.take 0 ++ [b]).map strV).length ≤ 1025) := Lib.hid (by rw [List.length_map, List.length_append, List.length_take]; simp)
          have KEY1 : Hid (∀ (v' : Value) (w5 : World), Appended (wc.alloc (.cells #[] 9)) w5 9 (.slice (some ⟨wc.heap.size, 0, none⟩) 0 0) v' [] ((S.drop 0).map strV) → ∃ a5 c5, v' = .slice a5 (0) c5 ∧ OwnQ w5 9 (.slice a5 (0) c5) ((S.drop 0).map strV) ∧ (∀ b, (Value.slice a5 (0) c5).ownBlock = some b → wc.heap.size ≤ b) ∧ But [] wc w5) := Lib.hid fun v' w5 hap => by
            have h := freshL (w0 := wc) ((But.refl [] wc).alloc _) (by rw [size_alloc]; omega) hap
            rwa [show ((S.drop 0).map strV).length = 0 from by rw [HS0.out]; rfl] at h
          have KEY2 : Hid (∀ (w5 w7 : World) (a5 : Option Addr) (c5 : Nat) (v7 : Value), OwnQ w5 9 (.slice a5 (0) c5) ((S.drop 0).map strV) → (∀ b, (Value.slice a5 (0) c5).ownBlock = some b → wc.heap.size ≤ b) → But [] wc w5 → Appended (w5.alloc (.cells #[strV b] 9)) w7 9 (.slice none 0 0) v7 ((S.take 0).map strV) [strV b] →
            ∃ a7 c7, v7 = .slice a7 (0 + 1) c7 ∧ OwnQ w7 9 (.slice a7 (0 + 1) c7) ((S.take 0 ++ [b]).map strV) ∧ (∀ x, (Value.slice a7 (0 + 1) c7).ownBlock = some x → w.heap.size ≤ x) ∧ Src Try.prog s0.size 94 (.slice a5 (0) c5) ((S.drop 0).map strV).length ((S.drop 0).map strV) w7 ∧ But [] w w7) := Lib.hid fun w5 w7 a5 c5 v7 q5 n5 b5 hap => by
              obtain ⟨a7, c7, h1, h2, h3, h4, h5⟩ := HSO.out.one HNL.out b5 q5 n5 hap
              have h6 := src_sees (P := Try.prog) Try.underlying94 sz1 h4.sees (strV_one _)
              exact ⟨a7, c7, h1, h2, fun x hx => (h3 x hx).1, h6, h5⟩
          have OWN2 : Hid (∀ w5, But [] wc w5 → OwnQ (w5.alloc (.cells #[strV b] 9)) 9 (.slice none 0 0) ((S.take 0).map strV)) := Lib.hid fun w5 b5 => (HSO.out.pre HNL.out).but (b5.trans ((But.refl [] _).alloc _) (by simp)) (by simp)
          have KEY3 : Hid (∀ (w7 w9 : World) (a7 : Option Addr) (c7 : Nat) (v9 : Value), OwnQ w7 9 (.slice a7 (0 + 1) c7) ((S.take 0 ++ [b]).map strV) → (∀ x, (Value.slice a7 (0 + 1) c7).ownBlock = some x → w.heap.size ≤ x) → But [] w w7 → Appended w7 w9 9 (.slice a7 (0 + 1) c7) v9 ((S.take 0 ++ [b]).map strV) ((S.drop 0).map strV) → ∃ a9 c9, v9 = .slice a9 (insS S b).length c9 ∧ SortK w w9 a9 c9 (insS S b)) := Lib.hid fun w7 w9 a7 c7 v9 q7 l7 b7 hap => SortK.two HNL.out HINS.out q7 l7 b7 hap
          rw [HLZ.out, show (((0 : Nat) : Int)) = 0 from rfl]
          go_wp2_with (at_builtin; first
            | (refine wpList_append_row (by rfl) _ _ 94 (by rfl) 9 s0 (.string ⟨#[]⟩) 16 Try.underlying94 sin sz0 sz1 sz2 rfl _ [] (by rfl) HQ0.out ((S.drop 0).map strV) _ (by rfl) HSRC.out (by have := HSD.out; unfold maxLen; have h0 : ([] : List Value).length = 0 := rfl; omega) (by have := HSD.out; have h0 : ([] : List Value).length = 0 := rfl; omega) ?_; intro v' w5 hap; obtain ⟨a5, c5, rfl, q5, n5, b5⟩ := KEY1.out _ _ hap; have Q5 := Lib.hid q5; have N5 := Lib.hid n5; have B5 := Lib.hid b5; have SR1 := Lib.hid (src_str1 (i0 := s0) sz1 w5 b); clear hap q5 n5 b5)
            | (refine wpList_append_row (by rfl) _ _ 94 (by rfl) 9 s0 (.string ⟨#[]⟩) 16 Try.underlying94 sin sz0 sz1 sz2 rfl _ ((S.take 0).map strV) (by rfl) (OWN2.out _ B5.out) [strV b] _ (by rfl) SR1.out (by have := HST.out; unfold maxLen; simp only [List.length_singleton]; omega) (by have := HST.out; simp only [List.length_singleton]; omega) ?_; intro v' w7 hap; obtain ⟨a7, c7, rfl, q7, l7, s7, b7⟩ := KEY2.out _ _ _ _ _ Q5.out N5.out B5.out hap; have Q7 := Lib.hid q7; have L7 := Lib.hid l7; have S7 := Lib.hid s7; have B7 := Lib.hid b7; clear hap q7 l7 s7 b7)
            | (refine wpList_append_row (by rfl) _ _ 94 (by rfl) 9 s0 (.string ⟨#[]⟩) 16 Try.underlying94 sin sz0 sz1 sz2 rfl _ ((S.take 0 ++ [b]).map strV) (by rfl) Q7.out ((S.drop 0).map strV) _ (by rfl) S7.out (by have := HSI.out; have := HSD.out; unfold maxLen; omega) (by have := HSI.out; have := HSD.out; omega) ?_; intro v' w9 hap; obtain ⟨a9, c9, rfl, s9⟩ := KEY3.out _ _ _ _ _ Q7.out L7.out B7.out hap; have S9 := Lib.hid s9; clear hap s9))
          have HNX : Hid (insS S b = ((A.map (·.1)).take (k + 1)).foldl insS []) := Lib.hid (by
            rw [List.take_add_one, List.getElem?_map, HX.out, List.foldl_append, ← HSS.out, HB.out]
            rfl)
          have HNL2 : Hid ((insS S b).length = k + 1) := Lib.hid (by rw [(insS_perm S b).length_eq, List.length_cons, HSL.out])
          go_roundw
          case rel => exact ⟨k + 1, a9, c9, insS S b, HLK.out, by go_num, rfl, HNX.out, HNL2.out, S9.out⟩
          case measure => first | exact find_meas HLK.out | exact (by rw [hw1]; exact find_meas HLK.out)
        · rw [List.length_map] at e1
          obtain ⟨rfl, -, rfl⟩ := Value.slice.inj e1
          have HWS : Hid (wc.heap.size = wc.heap.size) := Lib.hid rfl
          by_cases hc1 : n < c
          · have hnc : n ≤ c := by omega
            have hnc0 : ¬ c = n := by omega
            have hncI : (n : Int) ≤ (c : Int) := by omega
            have HSRC : Hid (Src Try.prog s0.size 94 (.slice (some ⟨gs, os + n, none⟩) (S.length - n) (c - n)) ((S.drop n).map strV).length ((S.drop n).map strV) (wc.alloc (.cells #[] 9))) := Lib.hid (src_sees (P := Try.prog) Try.underlying94 sz1 ((HSO.out.rest HNL.out).but ((But.refl [] _).alloc _) (by simp)) (strV_one _) |> fun h => by simpa using h)
            have HQ0 : Hid (OwnQ (wc.alloc (.cells #[] 9)) 9 (.slice (some ⟨wc.heap.size, 0, none⟩) 0 0) []) := Lib.hid (fresh_atL wc 9)
            have HSD : Hid (((S.drop n).map strV).length ≤ 1024) := Lib.hid (by rw [List.length_map, List.length_drop]; have := HSN.out; omega)
            have HST : Hid (((S.take n).map strV).length ≤ 1024) := Lib.hid (by rw [List.length_map, List.length_take]; have := HSN.out; omega)
            have HSI : Hid (((S.take n ++ [b]).map strV).length ≤ 1025) := Lib.hid (by rw [List.length_map, List.length_append, List.length_take]; have := HSN.out; simp; omega)
            have KEY1 : Hid (∀ (v' : Value) (w5 : World), Appended (wc.alloc (.cells #[] 9)) w5 9 (.slice (some ⟨wc.heap.size, 0, none⟩) 0 0) v' [] ((S.drop n).map strV) → ∃ a5 c5, v' = .slice a5 (S.length - n) c5 ∧ OwnQ w5 9 (.slice a5 (S.length - n) c5) ((S.drop n).map strV) ∧ (∀ b, (Value.slice a5 (S.length - n) c5).ownBlock = some b → wc.heap.size ≤ b) ∧ But [] wc w5) := Lib.hid fun v' w5 hap => by
              have h := freshL (w0 := wc) ((But.refl [] wc).alloc _) (by rw [size_alloc]; omega) hap
              rwa [show ((S.drop n).map strV).length = S.length - n by rw [List.length_map, List.length_drop]] at h
            have KEY2 : Hid (∀ (w5 w7 : World) (a5 : Option Addr) (c5 : Nat) (v7 : Value), OwnQ w5 9 (.slice a5 (S.length - n) c5) ((S.drop n).map strV) → (∀ b, (Value.slice a5 (S.length - n) c5).ownBlock = some b → wc.heap.size ≤ b) → But [] wc w5 → Appended (w5.alloc (.cells #[strV b] 9)) w7 9 (.slice (some ⟨gs, os, none⟩) n c) v7 ((S.take n).map strV) [strV b] →
              ∃ a7 c7, v7 = .slice a7 (n + 1) c7 ∧ OwnQ w7 9 (.slice a7 (n + 1) c7) ((S.take n ++ [b]).map strV) ∧ (∀ x, (Value.slice a7 (n + 1) c7).ownBlock = some x → w.heap.size ≤ x) ∧ Src Try.prog s0.size 94 (.slice a5 (S.length - n) c5) ((S.drop n).map strV).length ((S.drop n).map strV) w7 ∧ But [] w w7) := Lib.hid fun w5 w7 a5 c5 v7 q5 n5 b5 hap => by
                obtain ⟨a7, c7, h1, h2, h3, h4, h5⟩ := HSO.out.one HNL.out b5 q5 n5 hap
                have h6 := src_sees (P := Try.prog) Try.underlying94 sz1 h4.sees (strV_one _)
                exact ⟨a7, c7, h1, h2, fun x hx => (h3 x hx).1, h6, h5⟩
            have OWN2 : Hid (∀ w5, But [] wc w5 → OwnQ (w5.alloc (.cells #[strV b] 9)) 9 (.slice (some ⟨gs, os, none⟩) n c) ((S.take n).map strV)) := Lib.hid fun w5 b5 => (HSO.out.pre HNL.out).but (b5.trans ((But.refl [] _).alloc _) (by simp)) (by simp)
            have KEY3 : Hid (∀ (w7 w9 : World) (a7 : Option Addr) (c7 : Nat) (v9 : Value), OwnQ w7 9 (.slice a7 (n + 1) c7) ((S.take n ++ [b]).map strV) → (∀ x, (Value.slice a7 (n + 1) c7).ownBlock = some x → w.heap.size ≤ x) → But [] w w7 → Appended w7 w9 9 (.slice a7 (n + 1) c7) v9 ((S.take n ++ [b]).map strV) ((S.drop n).map strV) → ∃ a9 c9, v9 = .slice a9 (insS S b).length c9 ∧ SortK w w9 a9 c9 (insS S b)) := Lib.hid fun w7 w9 a7 c7 v9 q7 l7 b7 hap => SortK.two HNL.out HINS.out q7 l7 b7 hap
            go_wp2_with (at_builtin; first
              | (refine wpList_append_row (by rfl) _ _ 94 (by rfl) 9 s0 (.string ⟨#[]⟩) 16 Try.underlying94 sin sz0 sz1 sz2 rfl _ [] (by rfl) HQ0.out ((S.drop n).map strV) _ (by rfl) HSRC.out (by have := HSD.out; unfold maxLen; have h0 : ([] : List Value).length = 0 := rfl; omega) (by have := HSD.out; have h0 : ([] : List Value).length = 0 := rfl; omega) ?_; intro v' w5 hap; obtain ⟨a5, c5, rfl, q5, n5, b5⟩ := KEY1.out _ _ hap; have Q5 := Lib.hid q5; have N5 := Lib.hid n5; have B5 := Lib.hid b5; have SR1 := Lib.hid (src_str1 (i0 := s0) sz1 w5 b); clear hap q5 n5 b5)
              | (refine wpList_append_row (by rfl) _ _ 94 (by rfl) 9 s0 (.string ⟨#[]⟩) 16 Try.underlying94 sin sz0 sz1 sz2 rfl _ ((S.take n).map strV) (by rfl) (OWN2.out _ B5.out) [strV b] _ (by rfl) SR1.out (by have := HST.out; unfold maxLen; simp only [List.length_singleton]; omega) (by have := HST.out; simp only [List.length_singleton]; omega) ?_; intro v' w7 hap; obtain ⟨a7, c7, rfl, q7, l7, s7, b7⟩ := KEY2.out _ _ _ _ _ Q5.out N5.out B5.out hap; have Q7 := Lib.hid q7; have L7 := Lib.hid l7; have S7 := Lib.hid s7; have B7 := Lib.hid b7; clear hap q7 l7 s7 b7)
              | (refine wpList_append_row (by rfl) _ _ 94 (by rfl) 9 s0 (.string ⟨#[]⟩) 16 Try.underlying94 sin sz0 sz1 sz2 rfl _ ((S.take n ++ [b]).map strV) (by rfl) Q7.out ((S.drop n).map strV) _ (by rfl) S7.out (by have := HSI.out; have := HSD.out; unfold maxLen; omega) (by have := HSI.out; have := HSD.out; omega) ?_; intro v' w9 hap; obtain ⟨a9, c9, rfl, s9⟩ := KEY3.out _ _ _ _ _ Q7.out L7.out B7.out hap; have S9 := Lib.hid s9; clear hap s9))
            have HNX : Hid (insS S b = ((A.map (·.1)).take (k + 1)).foldl insS []) := Lib.hid (by
              rw [List.take_add_one, List.getElem?_map, HX.out, List.foldl_append, ← HSS.out, HB.out]
              rfl)
            have HNL2 : Hid ((insS S b).length = k + 1) := Lib.hid (by rw [(insS_perm S b).length_eq, List.length_cons, HSL.out])
            go_roundw
            case rel => exact ⟨k + 1, a9, c9, insS S b, HLK.out, by go_num, rfl, HNX.out, HNL2.out, S9.out⟩
            case measure => first | exact find_meas HLK.out | exact (by rw [hw1]; exact find_meas HLK.out)
          · have hcl : S.length ≤ c := by
              have h := HSO.out.own.sees
              rcases h with ⟨h, _⟩ | ⟨_, _, h, h2, _⟩
              · cases h
              · simp only [Value.slice.injEq, List.length_map] at h h2
                omega
            obtain rfl : n = c := by have := HNL.out; omega
            have hdn : S.drop n = [] := List.drop_eq_nil_of_le hcl
            have hsn : S.length - n = 0 := by omega
            have HSRC : Hid (Src Try.prog s0.size 94 (.slice (some ⟨gs, os, none⟩) (S.length - n) 0) ((S.drop n).map strV).length ((S.drop n).map strV) (wc.alloc (.cells #[] 9))) := Lib.hid (by
              rw [hdn, hsn]
              exact src_sees (P := Try.prog) Try.underlying94 sz1 (xs := []) (.inr ⟨⟨gs, os, none⟩, 0, rfl, Nat.le_refl _, fun j u hj => (by simp at hj)⟩) (by simp))
            have hSn : S.length - n = 0 := hsn
            have HSN0 := Lib.hid hSn
            clear hdn hcl hc1 hsn hSn
            have HQ0 : Hid (OwnQ (wc.alloc (.cells #[] 9)) 9 (.slice (some ⟨wc.heap.size, 0, none⟩) 0 0) []) := Lib.hid (fresh_atL wc 9)
            have HSD : Hid (((S.drop n).map strV).length ≤ 1024) := Lib.hid (by rw [List.length_map, List.length_drop]; have := HSN.out; omega)
            have HST : Hid (((S.take n).map strV).length ≤ 1024) := Lib.hid (by rw [List.length_map, List.length_take]; have := HSN.out; omega)
            have HSI : Hid (((S.take n ++ [b]).map strV).length ≤ 1025) := Lib.hid (by rw [List.length_map, List.length_append, List.length_take]; have := HSN.out; simp; omega)
            have KEY1 : Hid (∀ (v' : Value) (w5 : World), Appended (wc.alloc (.cells #[] 9)) w5 9 (.slice (some ⟨wc.heap.size, 0, none⟩) 0 0) v' [] ((S.drop n).map strV) → ∃ a5 c5, v' = .slice a5 (S.length - n) c5 ∧ OwnQ w5 9 (.slice a5 (S.length - n) c5) ((S.drop n).map strV) ∧ (∀ b, (Value.slice a5 (S.length - n) c5).ownBlock = some b → wc.heap.size ≤ b) ∧ But [] wc w5) := Lib.hid fun v' w5 hap => by
              have h := freshL (w0 := wc) ((But.refl [] wc).alloc _) (by rw [size_alloc]; omega) hap
              rwa [show ((S.drop n).map strV).length = S.length - n by rw [List.length_map, List.length_drop]] at h
            have KEY2 : Hid (∀ (w5 w7 : World) (a5 : Option Addr) (c5 : Nat) (v7 : Value), OwnQ w5 9 (.slice a5 (S.length - n) c5) ((S.drop n).map strV) → (∀ b, (Value.slice a5 (S.length - n) c5).ownBlock = some b → wc.heap.size ≤ b) → But [] wc w5 → Appended (w5.alloc (.cells #[strV b] 9)) w7 9 (.slice (some ⟨gs, os, none⟩) n n) v7 ((S.take n).map strV) [strV b] →
              ∃ a7 c7, v7 = .slice a7 (n + 1) c7 ∧ OwnQ w7 9 (.slice a7 (n + 1) c7) ((S.take n ++ [b]).map strV) ∧ (∀ x, (Value.slice a7 (n + 1) c7).ownBlock = some x → w.heap.size ≤ x) ∧ Src Try.prog s0.size 94 (.slice a5 (S.length - n) c5) ((S.drop n).map strV).length ((S.drop n).map strV) w7 ∧ But [] w w7) := Lib.hid fun w5 w7 a5 c5 v7 q5 n5 b5 hap => by
                obtain ⟨a7, c7, h1, h2, h3, h4, h5⟩ := HSO.out.one HNL.out b5 q5 n5 hap
                have h6 := src_sees (P := Try.prog) Try.underlying94 sz1 h4.sees (strV_one _)
                exact ⟨a7, c7, h1, h2, fun x hx => (h3 x hx).1, h6, h5⟩
            have OWN2 : Hid (∀ w5, But [] wc w5 → OwnQ (w5.alloc (.cells #[strV b] 9)) 9 (.slice (some ⟨gs, os, none⟩) n n) ((S.take n).map strV)) := Lib.hid fun w5 b5 => (HSO.out.pre HNL.out).but (b5.trans ((But.refl [] _).alloc _) (by simp)) (by simp)
            have KEY3 : Hid (∀ (w7 w9 : World) (a7 : Option Addr) (c7 : Nat) (v9 : Value), OwnQ w7 9 (.slice a7 (n + 1) c7) ((S.take n ++ [b]).map strV) → (∀ x, (Value.slice a7 (n + 1) c7).ownBlock = some x → w.heap.size ≤ x) → But [] w w7 → Appended w7 w9 9 (.slice a7 (n + 1) c7) v9 ((S.take n ++ [b]).map strV) ((S.drop n).map strV) → ∃ a9 c9, v9 = .slice a9 (insS S b).length c9 ∧ SortK w w9 a9 c9 (insS S b)) := Lib.hid fun w7 w9 a7 c7 v9 q7 l7 b7 hap => SortK.two HNL.out HINS.out q7 l7 b7 hap
            go_wp2_with (at_builtin; first
              | (refine wpList_append_row (by rfl) _ _ 94 (by rfl) 9 s0 (.string ⟨#[]⟩) 16 Try.underlying94 sin sz0 sz1 sz2 rfl _ [] (by rfl) HQ0.out ((S.drop n).map strV) _ (by rfl) HSRC.out (by have := HSD.out; unfold maxLen; have h0 : ([] : List Value).length = 0 := rfl; omega) (by have := HSD.out; have h0 : ([] : List Value).length = 0 := rfl; omega) ?_; intro v' w5 hap; obtain ⟨a5, c5, rfl, q5, n5, b5⟩ := KEY1.out _ _ hap; have Q5 := Lib.hid q5; have N5 := Lib.hid n5; have B5 := Lib.hid b5; have SR1 := Lib.hid (src_str1 (i0 := s0) sz1 w5 b); clear hap q5 n5 b5)
              | (refine wpList_append_row (by rfl) _ _ 94 (by rfl) 9 s0 (.string ⟨#[]⟩) 16 Try.underlying94 sin sz0 sz1 sz2 rfl _ ((S.take n).map strV) (by rfl) (OWN2.out _ B5.out) [strV b] _ (by rfl) SR1.out (by have := HST.out; unfold maxLen; simp only [List.length_singleton]; omega) (by have := HST.out; simp only [List.length_singleton]; omega) ?_; intro v' w7 hap; obtain ⟨a7, c7, rfl, q7, l7, s7, b7⟩ := KEY2.out _ _ _ _ _ Q5.out N5.out B5.out hap; have Q7 := Lib.hid q7; have L7 := Lib.hid l7; have S7 := Lib.hid s7; have B7 := Lib.hid b7; clear hap q7 l7 s7 b7)
              | (refine wpList_append_row (by rfl) _ _ 94 (by rfl) 9 s0 (.string ⟨#[]⟩) 16 Try.underlying94 sin sz0 sz1 sz2 rfl _ ((S.take n ++ [b]).map strV) (by rfl) Q7.out ((S.drop n).map strV) _ (by rfl) S7.out (by have := HSI.out; have := HSD.out; unfold maxLen; omega) (by have := HSI.out; have := HSD.out; omega) ?_; intro v' w9 hap; obtain ⟨a9, c9, rfl, s9⟩ := KEY3.out _ _ _ _ _ Q7.out L7.out B7.out hap; have S9 := Lib.hid s9; clear hap s9))
            have HNX : Hid (insS S b = ((A.map (·.1)).take (k + 1)).foldl insS []) := Lib.hid (by
              rw [List.take_add_one, List.getElem?_map, HX.out, List.foldl_append, ← HSS.out, HB.out]
              rfl)
            have HNL2 : Hid ((insS S b).length = k + 1) := Lib.hid (by rw [(insS_perm S b).length_eq, List.length_cons, HSL.out])
            go_roundw
            case rel => exact ⟨k + 1, a9, c9, insS S b, HLK.out, by go_num, rfl, HNX.out, HNL2.out, S9.out⟩
            case measure => first | exact find_meas HLK.out | exact (by rw [hw1]; exact find_meas HLK.out)
    · have HSA : Hid (S = sortS (A.map (·.1))) := Lib.hid (by rw [HSS.out, List.take_of_length_le (by rw [List.length_map]; omega)]; rfl)
      obtain rfl : k = A.length := num_eqR hkl hlk
      have HLN := HSL
      have HSK : Hid (∀ cs ∈ S, SignK K cs) := Lib.hid (fun cs hcs => by
        rw [HSA.out] at hcs
        have h2 := (sortS_all (A.map (·.1))).1.mem_iff.1 hcs
        obtain ⟨x, hx, rfl⟩ := List.mem_map.1 h2
        exact HAA.out x hx)
      obtain ⟨j0, ki, kz0, kz1, kz2⟩ := info_parts (show (Try.prog.info? 5).map (fun i => (i.zero, i.size, i.bytes)) = some (some (.int .u8 0), 1, 1) by kernel_rfl)
      obtain ⟨i1, di, dz0, dz1, dz2⟩ := info_parts (show (Try.prog.info? 26).map (fun i => (i.zero, i.size, i.bytes)) = some (some (.slice none 0 0), 1, 24) by kernel_rfl)
      have hmk : ∀ w, (Instr.makeSlice 26 (.int .i64 (K : Int)) (.int .i64 (K : Int))).run Try.prog w = .ok (.slice (some ⟨w.heap.size, 0, none⟩) K K) (w.alloc (.cells (madeCells #[.int .u8 0] K) 5)) := fun w => by
        have hK := HKK.out
        have h := run_make (P := Try.prog) w 26 5 j0 (.int .u8 0) Try.underlying26 ki kz0 .i64 .i64 (K : Int) (K : Int) (by omega) (by omega) (by rw [kz2]; omega) (by omega)
        rw [h, kz1]
        simp only [Int.toNat_natCast, Nat.mul_one]
        rfl
      have HSN : Hid (S.length ≤ 1024) := Lib.hid (by have := HSL.out; omega)
      clear hkl hlk
      go_wp2_with fail
      clear d4
      go_loopw [8, 9] (fun so i wq => ∃ (j : Nat) (a8 : Option Addr) (c8 : Nat) (vals : List Value), j ≤ S.length ∧ i = .int .i64 j ∧ so = .slice a8 vals.length c8 ∧ KeyT wr wq K S j a8 c8 vals) (fun _ i _ => S.length - (intOf i).toNat)
      case atStart => exact ⟨0, none, 0, [], Nat.zero_le _, rfl, rfl, KeyT.nil _ _ _⟩
      case round =>
        rename World => wq
        obtain ⟨j, a8, c8, vals, hjl, rfl, rfl, hkt⟩ := hrel
        have HKT := Lib.hid hkt
        clear hkt
        by_cases hlj : j < S.length
        · obtain ⟨hj0, hj1, hw5, hw6⟩ := find_nums hlj HSN.out
          obtain ⟨cs, hcs⟩ : ∃ cs, S[j]? = some cs := ⟨_, List.getElem?_eq_getElem hlj⟩
          obtain ⟨π, rfl, hπ, hπl⟩ := HSK.out cs (List.mem_of_getElem? hcs)
          obtain ⟨gs, os, rfl⟩ := HSO.out.own.addr (Nat.zero_lt_of_lt hlj)
          have hbq : But [] w wq := HSO.out.but.trans HKT.out.but (by simp)
          have e1 : wq.cell? ⟨R, 1, none⟩ = some (.int .i64 K) := cell_but hbq H1.out (by simp)
          have e2 := sortAt (HSO.out.own.but HKT.out.but (by simp)) hcs
          have e2a : ∀ o, (wq.alloc o).cell? ⟨gs, os + j, none⟩ = some (.string (strOfNums (chs π))) := fun o => cell_but ((But.refl [] _).alloc o) e2 (by simp)
          have hsz : (strOfNums (chs π)).size = π.length := by rw [str_len, chs_len]
          have hsl : π.length ≤ 8 * (K - 4) := hπl
          have hK36 : 5 ≤ K ∧ K ≤ 36 := HKK.out
          have HPI := Lib.hid hπ
          have HPL := Lib.hid hπl
          have HCS := Lib.hid hcs
          have HLJ := Lib.hid hlj
          have HBQ := Lib.hid hbq
          obtain ⟨b0, hb0⟩ : ∃ b0 : Int, b0 = (π.length : Int) % 256 := ⟨_, rfl⟩
          obtain ⟨b1, hb1⟩ : ∃ b1 : Int, b1 = (π.length : Int) / 256 % 256 := ⟨_, rfl⟩
          have hx0 : IntKind.u8.wrap (π.length : Int) = b0 := by rw [hb0, IntKind.wrap_u8]
          have hx1 : IntKind.u8.wrap ((π.length : Int) / 256) = b1 := by rw [hb1, IntKind.wrap_u8]
          have hwl : IntKind.i64.wrap ((π.length : Int) / 256) = (π.length : Int) / 256 := by rw [IntKind.wrap_i64]; omega
          have HHD := Lib.hid (head_heap (w := wq) hK36.1 hb0 hb1)
          have hk0 : (0 : Int) < (K : Int) := by omega
          have hk1 : (1 : Int) < (K : Int) := by omega
          have hk2 : 1 < K := by omega
          have hk3 : 0 < K := by omega
          have g0 := al_at wq (.cells (madeCells #[.int .u8 0] K) 5)
          have cc0 : (wq.alloc (.cells (madeCells #[.int .u8 0] K) 5)).cell? ⟨wq.heap.size, 0, none⟩ = some (.int .u8 0) := by rw [cl_of g0 0]; simp [madeCells, hk3]
          have cc1 : (wq.alloc (.cells (madeCells #[.int .u8 0] K) 5)).cell? ⟨wq.heap.size, 1, none⟩ = some (.int .u8 0) := by rw [cl_of g0 1]; simp [madeCells, hk2, Nat.mod_one]
          have ff0 : (wq.alloc (.cells (madeCells #[.int .u8 0] K) 5)).frozen? ⟨wq.heap.size, 0, none⟩ = false := fz_of g0 0
          have ff1 : (wq.alloc (.cells (madeCells #[.int .u8 0] K) 5)).frozen? ⟨wq.heap.size, 1, none⟩ = false := fz_of g0 1
          clear hb0 hb1 hbq hsl hπ hπl hcs hlj hjl hK36 g0
          go_upto_region 17 with fail
          generalize hW1 : wq.alloc (.cells (madeCells #[.int .u8 0] K) 5) = w1 at HHD cc0 cc1 ff0 ff1 ⊢
          obtain ⟨B, hBB⟩ : ∃ B, B = wq.heap.size := ⟨_, rfl⟩
          rw [← hBB] at HHD cc0 cc1 ff0 ff1 ⊢
          have HBB := Lib.hid hBB
          have HW1 := Lib.hid hW1
          clear hBB hW1
          go_wp2_with fail
          have HRI : Hid (RowI wq ((w1.setCell ⟨B, 0, none⟩ (.int .u8 b0)).setCell ⟨B, 1, none⟩ (.int .u8 b1)) B K π 0) := Lib.hid (RowI.zero HHD.out.1 HHD.out.2)
          clear cc0 cc1 ff0 ff1 HHD e1 e2 e2a hsz hx0 hx1 hwl hk0 hk1 hk2 hk3
          go_loopw [12] (fun i wx => ∃ k : Nat, k ≤ π.length ∧ i = .int .i64 k ∧ RowI wq wx B K π k) (fun i _ => π.length - (intOf i).toNat)
          case atStart => exact ⟨0, Nat.zero_le _, rfl, HRI.out⟩
          case round =>
            rename World => wx
            obtain ⟨k, hkl, rfl, hri⟩ := hrel
            have HR := Lib.hid hri
            clear hri HRI
            by_cases hlk : k < π.length
            · obtain ⟨x, hx⟩ : ∃ x, π[k]? = some x := ⟨_, List.getElem?_eq_getElem hlk⟩
              have hx01 := HPI.out x (List.mem_of_getElem? hx)
              have c2 := sortAt (HSO.out.own.but (HKT.out.but.trans HR.out.but (by simp)) (by simp)) HCS.out
              have hsz : (strOfNums (chs π)).size = π.length := by rw [str_len, chs_len]
              have hkk : (k : Int) < (π.length : Int) := by omega
              have hk0 : (0 : Int) ≤ (k : Int) := by omega
              have h49 := fun h => sign_at hx h hx01
              have HX := Lib.hid hx
              have HLK := Lib.hid hlk
              have hupd : wrap64 ((k : Int) + 1) = (k : Int) + 1 := wrap_up (up_ltK HLK.out HPL.out HKK.out)
              have HMS := Lib.hid (meas_up hlk)
              clear hx hlk hkl
              go_upto_block 7 with fail
              go_cut [] from 103 to 130 (fun wz => RowI wq wz B K π (k + 1))
              case first =>
                rcases hx01 with rfl | rfl
                · have h49 := h49 (by rw [hsz]; exact HLK.out)
                  have hne : ((((strOfNums (chs π))[k]'(by rw [hsz]; exact HLK.out)).toNat : Int) == 49) = false := by rw [h49]; rfl
                  clear h49
                  go_wp2_with fail
                  go_meet
                  exact HR.out.pass HKK.out.1 HPI.out HPL.out HX.out
                · have h49 := h49 (by rw [hsz]; exact HLK.out)
                  have heq : ((((strOfNums (chs π))[k]'(by rw [hsz]; exact HLK.out)).toNat : Int) == 49) = true := by rw [h49]; rfl
                  clear h49
                  obtain ⟨-, -, hidx', -, hw3, hw2, -, hw7, hw8, hw9, -, -, hi0⟩ := beg_nums HLK.out HPL.out (key_numsK HKK.out).1 (key_numsK HKK.out).2
                  have hidx : 4 + k / 8 < K := idx_ltK HLK.out HPL.out HKK.out
                  obtain ⟨y, hy, hyd⟩ := putAll_atR (n := π.length) HKK.out.1 (π.take k) hidx
                  have cr : wx.cell? ⟨B, 4 + k / 8, none⟩ = some (.int .u8 y) := by
                    rw [cl_of HR.out.row]
                    simp [u8s_at hy]
                  have fr : wx.frozen? ⟨B, 4 + k / 8, none⟩ = false := fz_of HR.out.row _
                  have HYD := Lib.hid hyd
                  clear hy hyd hupd hidx
                  obtain ⟨r, hr8, hrn, hri⟩ := mod_parts k
                  have HRN := Lib.hid hrn
                  clear hrn
                  match r, hr8 with
                  | 0, _ | 1, _ | 2, _ | 3, _ | 4, _ | 5, _ | 6, _ | 7, _ =>
                    go_wp2_with fail
                    go_meet
                    exact HR.out.turn (by rw [HBB.out]; exact Nat.le_refl _) HX.out HYD.out (by rw [HRN.out]; rfl)
              case rest =>
                have HR2 := Lib.hid hcut
                clear hcut h49 c2 hsz
                go_wp2_with fail
                go_roundw
                case rel => exact ⟨k + 1, HLK.out, by rw [hupd]; rfl, HR2.out⟩
                case measure => first | exact HMS.out | (rw [hupd]; exact HMS.out)
            · obtain rfl : k = π.length := num_eqR hkl hlk
              have hnr := rowI_done HR.out HKK.out (by rw [HBB.out]; exact Nat.le_refl _)
              have HNR : Hid (NewRow wr wx (.slice (some ⟨B, 0, none⟩) K K) (rowR K (unchs (chs π)))) := Lib.hid (by rw [unchs_chs]; exact hnr.old HKT.out.but.size)
              have HSRC : Hid (Src Try.prog i1.size 39 (.slice (some ⟨wx.heap.size, 0, none⟩) 1 1) [Value.slice (some ⟨B, 0, none⟩) K K].length [Value.slice (some ⟨B, 0, none⟩) K K] (wx.alloc (.cells #[.slice (some ⟨B, 0, none⟩) K K] 26))) := Lib.hid (src_row1 dz1 wx _ rfl)
              have HOV : Hid (OwnQ (wx.alloc (.cells #[.slice (some ⟨B, 0, none⟩) K K] 26)) 26 (.slice a8 vals.length c8) vals) := Lib.hid ((HKT.out.own.but HR.out.but (by simp)).but ((But.refl [] _).alloc _) (by simp))
              have HVN : Hid (vals.length ≤ 1024) := Lib.hid (by rw [HKT.out.len]; exact Nat.le_trans (Nat.le_of_lt HLJ.out) HSN.out)
              have HV1 := Lib.hid (one_len1 HVN.out (v := .slice (some ⟨B, 0, none⟩) K K))
              have HV2 := Lib.hid (one_len2 HVN.out (v := .slice (some ⟨B, 0, none⟩) K K))
              have KEY : Hid (∀ (v' : Value) (w7 : World), Appended (wx.alloc (.cells #[.slice (some ⟨B, 0, none⟩) K K] 26)) w7 26 (.slice a8 vals.length c8) v' vals [.slice (some ⟨B, 0, none⟩) K K] → ∃ a7 c7, v' = .slice a7 (vals ++ [Value.slice (some ⟨B, 0, none⟩) K K]).length c7 ∧ KeyT wr w7 K S (j + 1) a7 c7 (vals ++ [.slice (some ⟨B, 0, none⟩) K K])) := Lib.hid fun v' w7 hap => HKT.out.step HCS.out HR.out.but HNR.out ((But.refl [] _).alloc _) hap
              clear hkl hlk hnr
              go_wp2_with (at_builtin; (refine wpList_append_row (by rfl) _ _ 39 (by rfl) 26 i1 (.slice none 0 0) 24 Try.underlying39 di dz0 dz1 dz2 rfl _ vals (by rfl) HOV.out [.slice (some ⟨B, 0, none⟩) K K] _ (by rfl) HSRC.out HV1.out HV2.out ?_; intro v' w7 hap; obtain ⟨a7, c7, rfl, h7⟩ := KEY.out _ _ hap; have H7 := Lib.hid h7; clear hap h7))
              go_roundw
              case rel => exact ⟨j + 1, a7, c7, vals ++ [.slice (some ⟨B, 0, none⟩) K K], HLJ.out, by go_num, by rw [List.length_append]; rfl, H7.out⟩
              case measure => first | exact find_meas HLJ.out | exact (by rw [hw5]; exact find_meas HLJ.out)
        · obtain rfl : j = S.length := num_eqR hjl hlj
          have HFIN := Lib.hid HKT.out.sees
          have HFB : Hid (But [] w wq) := Lib.hid (HSO.out.but.trans HKT.out.but (by simp))
          have HVL := HKT.out.len
          rw [HVL]
          rw [HSA.out] at HFIN
          have HLA := Lib.hid HSL.out
          clear hjl hlj HVL
          go_wp2_with fail
          go_ret
          exact ⟨a8, c8, by rw [HSL.out]; rfl, by rw [← HSA.out, HSL.out] at HFIN; rw [← HSA.out]; exact HFIN.out, HFB.out⟩
end
end Go.Proofs.Ytpoinhfkgnkedaa.M
