/-
  hatchwayref02.Put of any slots.
-/
import Derived.Test.YtddeckkcfcodbaaGreatKeptI
namespace Go.Proofs.YtddeckkcfcodbaaGreat.M
open Go.RowKit Go.Shelf
set_option linter.unusedVariables false
set_option linter.unusedSectionVars false
set_option linter.unusedSimpArgs false
theorem enc_take {l : List Ins} {j : Nat} {x : Ins} (h : l[j]? = some x) : ((l.take (j + 1)).map enc).flatten = ((l.take j).map enc).flatten ++ enc x := by
  rw [List.take_add_one, h]
  simp
theorem app_more {w W1 w' : World} {e : TypeId} {v v' : Value} {xs ys : List Value} (hb : But [] w W1) (hn : NewIn w v) (hap : Appended W1 w' e v v' xs ys) : OwnQ w' e v' (xs ++ ys) ∧ NewIn w v' ∧ But [] w w' ∧ But v.ownBlock.toList W1 w' ∧ (v'.ownBlock = v.ownBlock ∨ v'.ownBlock = some W1.heap.size) := by
  obtain ⟨hq, hcs⟩ := hap
  rcases hcs with ⟨a2, cap, e1, e2, _, hb2⟩ | ⟨hn2, hb2⟩
  · have ho : v'.ownBlock = v.ownBlock := by rw [e1, e2]; exact own_same _ _ _ _ _
    exact ⟨hq, fun b hb' => hn b (ho ▸ hb'), hb.trans hb2 (fun y hy => .inr (hn y (by simpa using hy))), hb2, .inl ho⟩
  · exact ⟨hq, fun b hb' => by rw [hn2] at hb'; cases hb'; exact hb.size, hb.trans hb2 (by simp), hb2.mono (by simp), .inr hn2⟩
def n1 (x : Ins) : List Int := [x.op, x.dst + 16 * x.src, x.off % 256, IntKind.u16.wrap x.off / 256 % 256]
def n2 (x : Ins) : List Int := [x.imm % 256, x.imm % 4294967296 / 256 % 256, x.imm % 4294967296 / 65536 % 256, x.imm % 4294967296 / 16777216]
theorem n1_n2 {x : Ins} (h : InsOk x) : n1 x ++ n2 x = enc x := by
  obtain ⟨h1, h2, h3, h4, h5⟩ := h
  rw [enc_eq]
  simp only [n1, n2, List.cons_append, List.nil_append, IntKind.wrap_u16]
  congr 1
  congr 1
  · omega
  congr 1
  congr 1
  · omega
  congr 1
  congr 1
  · omega
  congr 1
  · omega
  congr 1
  omega
set_option maxRecDepth 100000 in
set_option maxHeartbeats 4000000 in
theorem refPut_c (a : Option Addr) (c : Nat) (l : List Ins) (w : World) (hs : SeesI w (.slice a l.length c) l) (hok : ∀ x ∈ l, InsOk x) (hl : l.length ≤ 1000000) :
    Calls Tryz.prog 13 #[.slice a l.length c] w (PutPost l w) := by
  obtain ⟨j0, ki, kz0, kz1, kz2⟩ := info_parts (show (Tryz.prog.info? 5).map (fun i => (i.zero, i.size, i.bytes)) = some (some (.int .u8 0), 1, 1) by kernel_rfl)
  have hl0 : (0 : Int) ≤ l.length := by omega
  by_cases h4 : l.length ≤ 4096
  · have h4' : ¬ (4096 : Int) < l.length := by omega
    have HS := Lib.hid (fun i x (hx : l[i]? = some x) => seesI_cell hs hx)
    have HOK := Lib.hid hok
    clear hs hok
    go_enter Tryz.func13, Tryz.ntmps13
    go_wp2_with fail
    go_loopw [4, 5] (fun oo ii wr => ∃ (j : Nat) (ao : Option Addr) (co : Nat), j ≤ l.length ∧ ii = .int .i64 j ∧ oo = .slice ao (8 * j) co ∧ OwnQ wr 5 (.slice ao (8 * j) co) (u8s ((l.take j).map enc).flatten) ∧ NewIn w (.slice ao (8 * j) co) ∧ (∀ x ∈ l.take j, Good x) ∧ But [] w wr) (fun _ ii _ => l.length - (intOf ii).toNat)
    case atStart => exact ⟨0, none, 0, Nat.zero_le _, rfl, rfl, OwnQ.nil _ _, (fun b hb => by cases hb), by simp, But.refl _ _⟩
    case round =>
      obtain ⟨j, ao, co, hj, rfl, rfl, hq, hn, hg, hb⟩ := hrel
      have HQ := Lib.hid hq
      have HN := Lib.hid hn
      have HG := Lib.hid hg
      have HB := Lib.hid hb
      clear hq hn hg
      by_cases hlt : j < l.length
      · obtain ⟨x, hx⟩ : ∃ x, l[j]? = some x := ⟨_, List.getElem?_eq_getElem hlt⟩
        obtain ⟨b, o, rfl, hc⟩ := HS.out j x hx
        obtain ⟨e0, e1, e2, e3, e4⟩ := hc wr hb
        have hxo := HOK.out x (List.mem_of_getElem? hx)
        have HX := Lib.hid hx
        obtain ⟨op, dst, src, off, imm⟩ := x
        obtain ⟨o1, o2, o3, o4, o5⟩ := hxo
        simp only at o1 o2 o3 o4 o5 e0 e1 e2 e3 e4
        have hj0 : (0 : Int) ≤ j := by omega
        have hj1 : (j : Int) < l.length := by omega
        clear hb hc hx
        by_cases hd : dst < 16
        · by_cases hsr : src < 16
          · have hd1 : ¬ (15 : Int) < dst := by omega
            have hs1 : ¬ (15 : Int) < src := by omega
            have q1 : IntKind.u8.wrap (16 * src) = 16 * src := by rw [IntKind.wrap_u8]; omega
            have q2 : IntKind.u8.wrap (dst + 16 * src) = dst + 16 * src := by rw [IntKind.wrap_u8]; omega
            obtain ⟨W1, hW1⟩ : ∃ W1, W1 = (wr.alloc (.cells #[.int .u8 op, .int .u8 dst, .int .u8 src, .int .i16 off, .int .i32 imm] 27)).alloc (.cells #[.int .u8 op, .int .u8 (dst + 16 * src), .int .u8 (off % 256), .int .u8 (IntKind.u16.wrap off / 256 % 256)] 5) := ⟨_, rfl⟩
            have hbW : But [] wr W1 := by rw [hW1]; exact ((But.refl [] wr).alloc _).alloc _
            have hbox : W1.heap[wr.heap.size]? = some (.cells #[.int .u8 op, .int .u8 dst, .int .u8 src, .int .i16 off, .int .i32 imm] 27) := by rw [hW1]; exact al_keep (al_at _ _) _
            have hnew : W1.heap[wr.heap.size + 1]? = some (.cells #[.int .u8 op, .int .u8 (dst + 16 * src), .int .u8 (off % 256), .int .u8 (IntKind.u16.wrap off / 256 % 256)] 5) := by rw [hW1]; exact al_eq _ _ _ (by rw [size_alloc])
            have HQ1 := Lib.hid (HQ.out.but hbW (by simp))
            have HS1 : Hid (Src Tryz.prog j0.size 22 (.slice (some ⟨wr.heap.size + 1, 0, none⟩) 4 4) (u8s (n1 ⟨op, dst, src, off, imm⟩)).length (u8s (n1 ⟨op, dst, src, off, imm⟩)) W1) := Lib.hid (src_sees (P := Tryz.prog) Tryz.underlying22 kz1 (.inr ⟨⟨wr.heap.size + 1, 0, none⟩, 4, rfl, by simp [u8s, n1], fun i u hu => by rw [add_at, Nat.zero_add, cl_of hnew]; simpa [u8s, n1] using hu⟩) (fun v hv => by simp only [u8s, List.mem_map] at hv; obtain ⟨n, _, rfl⟩ := hv; rfl))
            have hLE : (u8s ((l.take j).map enc).flatten).length = 8 * j := by rw [u8s_len, enc_all, List.length_take]; omega
            have HLE := Lib.hid hLE
            have KEY1 : Hid (∀ (v' : Value) (w' : World), Appended W1 w' 5 (.slice ao (8 * j) co) v' (u8s ((l.take j).map enc).flatten) (u8s (n1 ⟨op, dst, src, off, imm⟩)) → ∃ a' c', v' = .slice a' (8 * j + 4) c' ∧ OwnQ w' 5 (.slice a' (8 * j + 4) c') (u8s ((l.take j).map enc).flatten ++ u8s (n1 ⟨op, dst, src, off, imm⟩)) ∧ NewIn w (.slice a' (8 * j + 4) c') ∧ But [] w w' ∧ w'.heap[wr.heap.size]? = some (.cells #[.int .u8 op, .int .u8 dst, .int .u8 src, .int .i16 off, .int .i32 imm] 27)) := Lib.hid fun v' w' hap => by
              obtain ⟨k1, k2, k3, k4, k5⟩ := app_more (HB.out.trans hbW (by simp)) HN.out hap
              obtain ⟨a', c', e⟩ := k1.form
              rw [List.length_append, HLE.out] at e
              subst e
              exact ⟨a', c', rfl, k1, k2, k3, k4.heap hbox (fun hm => by have := HQ.out.lt (b := wr.heap.size) (by simpa using hm); omega)⟩
            have KEY2 : Hid (∀ (w1 : World) (a' : Option Addr) (c' : Nat) (v' : Value) (w' : World) (o9 : Obj), But [] w w1 → NewIn w (.slice a' (8 * j + 4) c') → Appended (w1.alloc o9) w' 5 (.slice a' (8 * j + 4) c') v' (u8s ((l.take j).map enc).flatten ++ u8s (n1 ⟨op, dst, src, off, imm⟩)) (u8s (n2 ⟨op, dst, src, off, imm⟩)) → ∃ a'' c'', v' = .slice a'' (8 * (j + 1)) c'' ∧ OwnQ w' 5 (.slice a'' (8 * (j + 1)) c'') (u8s ((l.take (j + 1)).map enc).flatten) ∧ NewIn w (.slice a'' (8 * (j + 1)) c'') ∧ But [] w w') := Lib.hid fun w1 a' c' v' w' o9 hb1 hn1 hap => by
              obtain ⟨k1, k2, k3, k4, k5⟩ := app_more (hb1.alloc o9) hn1 hap
              rw [List.append_assoc, ← u8s_app (n1 _), n1_n2 (x := ⟨op, dst, src, off, imm⟩) ⟨o1, o2, o3, o4, o5⟩, ← u8s_app, ← enc_take HX.out] at k1
              obtain ⟨a'', c'', e⟩ := k1.form
              rw [show (u8s ((l.take (j + 1)).map enc).flatten).length = 8 * (j + 1) by rw [u8s_len, enc_all, List.length_take]; omega] at e
              subst e
              exact ⟨a'', c'', rfl, k1, k2, k3⟩
            have HGD : Hid (∀ y ∈ l.take (j + 1), Good y) := Lib.hid fun y hy => by
              rw [List.take_add_one, HX.out] at hy
              rcases List.mem_append.1 hy with hy | hy
              · exact HG.out y hy
              · simp at hy; subst hy; exact ⟨hd, hsr⟩
            have HW1 := Lib.hid hW1
            clear hW1 hbW hbox hnew
            have hl4 : (u8s (n1 ⟨op, dst, src, off, imm⟩)).length = 4 := by simp [u8s, n1]
            have hl5 : (u8s (n2 ⟨op, dst, src, off, imm⟩)).length = 4 := by simp [u8s, n2]
            have hl6 : (u8s ((l.take j).map enc).flatten ++ u8s (n1 ⟨op, dst, src, off, imm⟩)).length ≤ 40000 := by rw [List.length_append, HLE.out]; omega
            have KQ : Hid (∀ (w1 : World) (v : Value) (xs : List Value), OwnQ w1 5 v xs → OwnQ (w1.alloc (.cells #[.int .u8 (imm % 256), .int .u8 (imm % 4294967296 / 256 % 256), .int .u8 (imm % 4294967296 / 65536 % 256), .int .u8 (imm % 4294967296 / 16777216)] 5)) 5 v xs) := Lib.hid fun w1 v xs h => h.but ((But.refl [] w1).alloc _) (by simp)
            have KS : Hid (∀ (w1 : World), Src Tryz.prog j0.size 22 (.slice (some ⟨w1.heap.size, 0, none⟩) 4 4) (u8s (n2 ⟨op, dst, src, off, imm⟩)).length (u8s (n2 ⟨op, dst, src, off, imm⟩)) (w1.alloc (.cells #[.int .u8 (imm % 256), .int .u8 (imm % 4294967296 / 256 % 256), .int .u8 (imm % 4294967296 / 65536 % 256), .int .u8 (imm % 4294967296 / 16777216)] 5))) := Lib.hid fun w1 => src_sees (P := Tryz.prog) Tryz.underlying22 kz1 (.inr ⟨⟨w1.heap.size, 0, none⟩, 4, rfl, by simp [u8s, n2], fun i u hu => by rw [add_at, Nat.zero_add, cl_of (al_at _ _)]; simpa [u8s, n2] using hu⟩) (fun v hv => by simp only [u8s, List.mem_map] at hv; obtain ⟨n, _, rfl⟩ := hv; rfl)
            go_wp2_with (first
              | (at_builtin; rw [← HW1.out]; refine wpList_append_row (by rfl) _ _ 22 (by rfl) 5 j0 (.int .u8 0) 1 Tryz.underlying22 ki kz0 kz1 kz2 rfl _ (u8s ((l.take j).map enc).flatten) (by rfl) HQ1.out (u8s (n1 ⟨op, dst, src, off, imm⟩)) _ (by rfl) HS1.out (by unfold maxLen; omega) (by omega) ?_; intro v' w1 hap; go_must (have h := KEY1.out v' w1 hap); obtain ⟨a', c', rfl, hq1, hn1, hb1, hx1⟩ := h; have HQ2 := Lib.hid hq1; have HN2 := Lib.hid hn1; have HB2 := Lib.hid hb1; have d4 : w1.cell? ⟨wr.heap.size, 4, none⟩ = some (.int .i32 imm) := cl_of hx1 4; clear hap hq1 hn1 hb1 hx1)
              | (at_builtin; refine wpList_append_row (by rfl) _ _ 22 (by rfl) 5 j0 (.int .u8 0) 1 Tryz.underlying22 ki kz0 kz1 kz2 rfl _ (u8s ((l.take j).map enc).flatten ++ u8s (n1 ⟨op, dst, src, off, imm⟩)) (by rfl) (KQ.out _ _ _ HQ2.out) (u8s (n2 ⟨op, dst, src, off, imm⟩)) _ (by rfl) (KS.out _) (by unfold maxLen; omega) (by omega) ?_; intro v' w2 hap; go_must (have h := KEY2.out _ _ _ v' w2 _ HB2.out HN2.out hap); obtain ⟨a2, c2, rfl, h2⟩ := h; have H2 := Lib.hid h2; clear hap h2))
            go_roundw
            case rel => exact ⟨j + 1, a2, c2, by omega, by go_num, rfl, H2.out.1, H2.out.2.1, HGD.out, H2.out.2.2⟩
            case measure => simp [intOf]; omega
          · have hd1 : ¬ (15 : Int) < dst := by omega
            have hs1 : (15 : Int) < src := by omega
            have herr : putErr l = 21 := putErr_bad h4 ⟨_, List.mem_of_getElem? HX.out, fun hg => hsr hg.2⟩
            have HP : Hid (PutPost l w (.returned (.tuple #[.slice none 0 0, .int .i64 21])) (wr.alloc (.cells #[.int .u8 op, .int .u8 dst, .int .u8 src, .int .i16 off, .int .i32 imm] 27))) := Lib.hid ⟨none, 0, 0, by rw [herr], ⟨by unfold putRow; rw [if_neg (by rw [herr]; decide)]; exact OwnQ.nil _ _, fun b hb => by cases hb⟩, HB.out.alloc _⟩
            clear herr
            go_wp2_with fail
            go_ret2
            exact HP.out
        · have hd1 : (15 : Int) < dst := by omega
          have herr : putErr l = 21 := putErr_bad h4 ⟨_, List.mem_of_getElem? HX.out, fun hg => hd hg.1⟩
          have HP : Hid (PutPost l w (.returned (.tuple #[.slice none 0 0, .int .i64 21])) (wr.alloc (.cells #[.int .u8 op, .int .u8 dst, .int .u8 src, .int .i16 off, .int .i32 imm] 27))) := Lib.hid ⟨none, 0, 0, by rw [herr], ⟨by unfold putRow; rw [if_neg (by rw [herr]; decide)]; exact OwnQ.nil _ _, fun b hb => by cases hb⟩, HB.out.alloc _⟩
          clear herr
          go_wp2_with fail
          go_ret2
          exact HP.out
      · obtain rfl : j = l.length := by omega
        have herr : putErr l = 0 := putErr_good h4 (by have h := HG.out; rwa [List.take_length] at h)
        have HP : Hid (PutPost l w (.returned (.tuple #[.slice ao (8 * l.length) co, .int .i64 0])) wr) := Lib.hid ⟨ao, _, co, by rw [herr], ⟨by have h := HQ.out; rw [List.take_length] at h; unfold putRow; rw [if_pos herr]; exact h, fun b hb => HN.out b hb⟩, HB.out⟩
        clear herr hb
        go_wp2_with fail
        go_ret2
        exact HP.out
  · have h4' : (4096 : Int) < l.length := by omega
    have HP : Hid (PutPost l w (.returned (.tuple #[.slice none 0 0, .int .i64 3])) w) := Lib.hid ⟨none, 0, 0, by rw [putErr_long (by omega)], ⟨by unfold putRow; rw [if_neg (by rw [putErr_long (by omega)]; decide)]; exact OwnQ.nil _ _, fun b hb => by cases hb⟩, But.refl _ _⟩
    clear hs hok h4
    go_enter Tryz.func13, Tryz.ntmps13
    go_wp2_with fail
    go_ret2
    exact HP.out
end Go.Proofs.YtddeckkcfcodbaaGreat.M
