/-
  slots: the iterator over a program's slots, as bytes; a register that is none is thrown.
-/
import Derived.Test.YtddeckkcfcodbaaGreatLow
import Derived.Laws.EntriesVeiled
import Derived.RegionIn
namespace Go.Proofs.YtddeckkcfcodbaaGreat.M
open Go.RowKit Go.Shelf
set_option linter.unusedVariables false
set_option linter.unusedSectionVars false
set_option linter.unusedSimpArgs false
attribute [local go_sem] Oper.semAt_some
theorem must_yes (E : Int) (w : World) : Calls Tryz.prog 18 #[.bool true, .int .i64 E] w fun e w' => e = .returned (.tuple #[]) ∧ w = w' := by
  go_enter Tryz.func18, Tryz.ntmps18
  go_wp2_with fail
  go_end0
  exact ⟨rfl, rfl⟩
theorem must_no (E : Int) (w : World) : Calls Tryz.prog 18 #[.bool false, .int .i64 E] w fun e w' => e = thrown E ∧ w = w' := by
  go_enter Tryz.func18, Tryz.ntmps18
  go_wp2_with fail
  exact ⟨rfl, rfl, rfl⟩
/-- A slot. -/
structure Ins where
  op : Int
  dst : Int
  src : Int
  off : Int
  imm : Int
def Ins.cells (x : Ins) : List Value := [.int .u8 x.op, .int .u8 x.dst, .int .u8 x.src, .int .i16 x.off, .int .i32 x.imm]
structure InsOk (x : Ins) : Prop where
  op : 0 ≤ x.op ∧ x.op ≤ 255
  dst : 0 ≤ x.dst ∧ x.dst ≤ 255
  src : 0 ≤ x.src ∧ x.src ≤ 255
  off : -32768 ≤ x.off ∧ x.off ≤ 32767
  imm : -2147483648 ≤ x.imm ∧ x.imm ≤ 2147483647
/-- What a list of slots shows. -/
def SeesI (w : World) (v : Value) (l : List Ins) : Prop := ∃ a c, v = .slice a l.length c ∧ ∀ (i : Nat) (x : Ins), l[i]? = some x → ∃ b o, a = some ⟨b, o, none⟩ ∧ ∀ (j : Nat) (u : Value), x.cells[j]? = some u → w.cell? ⟨b, o + i * 5 + j, none⟩ = some u
theorem SeesI.but {w w' : World} {v : Value} {l : List Ins} {L : List Nat} (h : SeesI w v l) (hb : But L w w') (hn : ∀ b, v.ownBlock = some b → b ∉ L) : SeesI w' v l := by
  obtain ⟨a, c, rfl, h⟩ := h
  refine ⟨a, c, rfl, fun i x hx => ?_⟩
  obtain ⟨b, o, rfl, hc⟩ := h i x hx
  exact ⟨b, o, rfl, fun j u hu => cell_but hb (hc j u hu) (hn b rfl)⟩
def Good (x : Ins) : Prop := x.dst < 16 ∧ x.src < 16
def enc (x : Ins) : List Int := [x.op, x.src * 16 + x.dst] ++ leB x.off 2 ++ leB x.imm 4
theorem enc_len (x : Ins) : (enc x).length = 8 := by simp [enc, leB_len]
/-- What the iterator tells: a row of eight bytes. -/
structure Told8 where
  a : Option Addr
  c : Nat
  bs : List Int
def Told8.v (x : Told8) : Value := .slice x.a 8 x.c
def Has8 (x : Told8) (w : World) : Prop := OwnQ w 5 (.slice x.a 8 x.c) (u8s x.bs) ∧ x.bs.length = 8
def SAll (l : List Ins) (xs : List Told8) : Prop := xs.map Told8.bs = l.map enc ∧ ∀ x ∈ l, Good x
def TBad (l : List Ins) (pre : List Told8) (chain : List PanicEntry) : Prop := chain = [{ v := .iface 30 (.int .i64 21), recovered := false }] ∧ ∃ x ∈ l, ¬ Good x
theorem slot16 {w : World} (v x y : Value) (off : Int) (hv : OwnQ w 5 v [x, y]) (h : -32768 ≤ off ∧ off ≤ 32767) : Calls Tryz.prog 42 #[v, .int .i16 off, .int .i64 2] w fun e w' => ∃ a c, e = .returned (.slice a 4 c) ∧ Grown w w' 5 v (.slice a 4 c) ([x, y] ++ u8s (leB off 2)) :=
  low16 v [x, y] off 2 w hv h (by decide) (by simp)
theorem slot32 {w : World} (v x y : Value) {off : Int} (imm : Int) (hv : OwnQ w 5 v ([x, y] ++ u8s (leB off 2))) (h : -2147483648 ≤ imm ∧ imm ≤ 2147483647) : Calls Tryz.prog 41 #[v, .int .i32 imm, .int .i64 4] w fun e w' => ∃ a c, e = .returned (.slice a 8 c) ∧ Grown w w' 5 v (.slice a 8 c) (([x, y] ++ u8s (leB off 2)) ++ u8s (leB imm 4)) := by
  have hl : ([x, y] ++ u8s (leB off 2)).length = 4 := by rw [List.length_append, u8s_len, leB_len]; rfl
  have h1 := low32 v ([x, y] ++ u8s (leB off 2)) imm 4 w hv h (by decide) (by omega)
  rw [hl] at h1
  exact h1
/-- Behind a round. -/
def AfterY (n0 : Nat) (J Jx : List Told8 → World → Prop) (W : World) (pre : List Told8) (bo : Bool) (W' : World) : Prop := if bo = true then J pre W' ∧ Below n0 W W' else Jx pre W'
theorem or16F : ∀ s d : Fin 16, bits BinOp.or .u8 ((s.val : Int) * 16) d.val = (s.val : Int) * 16 + d.val := by decide +kernel
theorem or16 {s d : Int} (h1 : 0 ≤ s) (h2 : s < 16) (h3 : 0 ≤ d) (h4 : d < 16) : bits BinOp.or .u8 (s * 16) d = s * 16 + d := by
  obtain ⟨m, rfl⟩ : ∃ m : Nat, s = m := ⟨s.toNat, by omega⟩
  obtain ⟨k, rfl⟩ : ∃ k : Nat, d = k := ⟨d.toNat, by omega⟩
  exact or16F ⟨m, by omega⟩ ⟨k, by omega⟩
set_option maxRecDepth 100000 in
set_option maxHeartbeats 4000000 in
theorem slots1_in (n : Nat) (hn : 4 ≤ n) (l P n0 : Nat) (s : Value) (prog : List Ins) (J Jx : List Told8 → World → Prop) (W : World) (hJ : Abides W.heap.size J) (hJx : Abides W.heap.size Jx)
    (hY : ∀ pre x W1, J pre W1 → Has8 x W1 → pre.length < prog.length → YieldAt Fence.wide (n - 1) Tryz.prog l #[x.v] W1 fun e W' =>
      (e = .returned (.bool true) ∧ J (pre ++ [x]) W' ∧ Below n0 W1 W') ∨ (e = .returned (.bool false) ∧ Jx (pre ++ [x]) W'))
    (hP : W.heap[P]? = some (.cells #[s] 28)) (hs : SeesI W s prog) (hok : ∀ x ∈ prog, InsOk x) (hl : prog.length ≤ 1000000000000) (hPn : P < n0) (hsn : ∀ b, s.ownBlock = some b → prog ≠ [] → b < n0) (hn0 : n0 ≤ W.heap.size) (h0 : J [] W) :
    CallsIn Fence.wide n Tryz.prog 40 #[.func (.yield l) #[] #[], .pointer (some ⟨P, 0, none⟩)] W (SeqPost (SAll prog) (fun _ => True) (TBad prog) J Jx) := by
  obtain ⟨a, c, rfl, hsc⟩ := hs
  have c0 : W.cell? ⟨P, 0, none⟩ = some (.slice a prog.length c) := cl_of hP 0
  have HSC := Lib.hid hsc
  have HOK := Lib.hid hok
  have HY := Lib.hid hY
  have HJ := Lib.hid hJ
  have HSN := Lib.hid hsn
  have HN0 := Lib.hid hn0
  have h1 : 1 ≤ n := by omega
  clear hP hsc hok hY hJ hJx hsn hPn hn0
  refine callsIn_of_wp Tryz.func40 rfl trivial ?_ rfl
  simp only [Tryz.ntmps40, List.size_toArray, List.length_cons, List.length_nil, Nat.reduceAdd, Nat.reduceSub, Array.replicate_succ, Array.replicate_zero, List.push_toArray, List.append_toArray, List.nil_append, List.cons_append]
  gi_wp2
  gi_loopw [8] (fun i wr => ∃ (j : Nat) (pre : List Told8), j ≤ prog.length ∧ i = .int .i64 j ∧ J pre wr ∧ pre.map Told8.bs = (prog.take j).map enc ∧ (∀ x ∈ prog.take j, Good x) ∧ Below n0 W wr) (fun i _ => prog.length - (intOf i).toNat)
  case atStart =>
    exact ⟨0, [], Nat.zero_le _, rfl, h0, by simp, by simp, Below.refl _ _⟩
  case round =>
    obtain ⟨j, pre, hj, rfl, hJ, hpre, hgood, hb⟩ := hrel
    have HJP := Lib.hid hJ
    have HPRE := Lib.hid hpre
    have HGD := Lib.hid hgood
    have HB := Lib.hid hb
    clear hJ hpre hgood hb h0
    by_cases hlt : j < prog.length
    · obtain ⟨x, hx⟩ : ∃ x, prog[j]? = some x := ⟨_, List.getElem?_eq_getElem hlt⟩
      obtain ⟨b, o, rfl, hc⟩ := HSC.out j x hx
      have hxm := List.mem_of_getElem? hx
      have hxo := HOK.out x hxm
      obtain ⟨op, dst, src, off, imm⟩ := x
      obtain ⟨o1, o2, o3, o4, o5⟩ := hxo
      simp only at o1 o2 o3 o4 o5
      have d0 : wr.cell? ⟨b, o + j * 5, none⟩ = some (.int .u8 op) := (HB.out.cell (p := ⟨b, o + j * 5, none⟩) (HSN.out b rfl (List.ne_nil_of_mem hxm))).trans (hc 0 _ rfl)
      have d1 : wr.cell? ⟨b, o + j * 5 + 1, none⟩ = some (.int .u8 dst) := (HB.out.cell (p := ⟨b, o + j * 5 + 1, none⟩) (HSN.out b rfl (List.ne_nil_of_mem hxm))).trans (hc 1 _ rfl)
      have d2 : wr.cell? ⟨b, o + j * 5 + 2, none⟩ = some (.int .u8 src) := (HB.out.cell (p := ⟨b, o + j * 5 + 2, none⟩) (HSN.out b rfl (List.ne_nil_of_mem hxm))).trans (hc 2 _ rfl)
      have d3 : wr.cell? ⟨b, o + j * 5 + 3, none⟩ = some (.int .i16 off) := (HB.out.cell (p := ⟨b, o + j * 5 + 3, none⟩) (HSN.out b rfl (List.ne_nil_of_mem hxm))).trans (hc 3 _ rfl)
      have d4 : wr.cell? ⟨b, o + j * 5 + 4, none⟩ = some (.int .i32 imm) := (HB.out.cell (p := ⟨b, o + j * 5 + 4, none⟩) (HSN.out b rfl (List.ne_nil_of_mem hxm))).trans (hc 4 _ rfl)
      have HX := Lib.hid hx
      have hk0 : (0 : Int) ≤ j := by omega
      have hk1 : (j : Int) < prog.length := by omega
      clear hc hx hxm
      by_cases hd : dst < 16
      · by_cases hsr : src < 16
        · gi_wp2_with fail
          refine ⟨trivial, ?_⟩
          refine (callsIn_wide.2 (must_yes 21 _)).mono ?_
          rintro e w1 ⟨rfl, rfl⟩
          have HOR : Hid (bits BinOp.or .u8 (src * 16) dst = src * 16 + dst) := Lib.hid (or16 o3.1 hsr o2.1 hd)
          gi_wp2_with fail
          rw [HOR.out]
          obtain ⟨w5, hw5⟩ : ∃ w5, w5 = (wr.alloc (.cells #[.int .u8 op, .int .u8 dst, .int .u8 src, .int .i16 off, .int .i32 imm] 27)).alloc (.cells #[.int .u8 op, .int .u8 (src * 16 + dst)] 5) := ⟨_, rfl⟩
          rw [← hw5]
          have hb5 : But [] wr w5 := by rw [hw5]; exact ((But.refl [] wr).alloc _).alloc _
          have gB : w5.heap[wr.heap.size]? = some (.cells #[.int .u8 op, .int .u8 dst, .int .u8 src, .int .i16 off, .int .i32 imm] 27) := by rw [hw5]; exact al_keep (al_at _ _) _
          have gO : w5.heap[wr.heap.size + 1]? = some (.cells #[.int .u8 op, .int .u8 (src * 16 + dst)] 5) := by rw [hw5]; exact al_eq _ _ _ (by rw [size_alloc])
          have hz5 : w5.heap.size = wr.heap.size + 2 := by rw [hw5, size_alloc, size_alloc]
          have e3 : w5.cell? ⟨wr.heap.size, 3, none⟩ = some (.int .i16 off) := cl_of gB 3
          have e4 : w5.cell? ⟨wr.heap.size, 4, none⟩ = some (.int .i32 imm) := cl_of gB 4
          have HOWN : Hid (OwnQ w5 5 (.slice (some ⟨wr.heap.size + 1, 0, none⟩) 2 2) [.int .u8 op, .int .u8 (src * 16 + dst)]) := Lib.hid (.inr ⟨_, 0, 2, _, rfl, gO, Nat.le_refl _, by decide, by simp, fun i u hu => by simpa using hu⟩)
          have HB5 := Lib.hid hb5
          have HZ5 := Lib.hid hz5
          clear hw5 hb5 gB gO hz5 d0 d1 d2 d3 d4
          have hb5d : But [] wr w5.drew := HB5.out.drew
          have HOWN5 : Hid (OwnQ w5.drew 5 (.slice (some ⟨wr.heap.size + 1, 0, none⟩) 2 2) [.int .u8 op, .int .u8 (src * 16 + dst)]) := Lib.hid (HOWN.out.but ((But.refl [] w5).drew) (by simp))
          have HOFF := Lib.hid o4
          have HIMM := Lib.hid o5
          have K46 : Hid (∀ w6, But (Value.slice (some ⟨wr.heap.size + 1, 0, none⟩) 2 2).ownBlock.toList w5.drew w6 → w6.cell? ⟨wr.heap.size, 4, none⟩ = some (.int .i32 imm)) := Lib.hid fun w6 hb => cell_but hb (show w5.drew.cell? ⟨wr.heap.size, 4, none⟩ = _ from e4) (by simp [Value.ownBlock])
          have HB5D := Lib.hid hb5d
          have hplen : pre.length < prog.length := by
            have h := congrArg List.length HPRE.out
            simp only [List.length_map, List.length_take] at h
            omega
          have HPL := Lib.hid hplen
          have KY : Hid (∀ w6 w7 a6 c6 a7 c7, Grown w5.drew w6 5 (.slice (some ⟨wr.heap.size + 1, 0, none⟩) 2 2) (.slice a6 4 c6) ([.int .u8 op, .int .u8 (src * 16 + dst)] ++ u8s (leB off 2)) → Grown w6 w7 5 (.slice a6 4 c6) (.slice a7 8 c7) (([.int .u8 op, .int .u8 (src * 16 + dst)] ++ u8s (leB off 2)) ++ u8s (leB imm 4)) →
              But [] wr w7 ∧ YieldAt Fence.wide (n - 1) Tryz.prog l #[.slice a7 8 c7] w7 fun e W' => ∃ bo, e = .returned (.bool bo) ∧ AfterY n0 J Jx W (pre ++ [⟨a7, c7, enc ⟨op, dst, src, off, imm⟩⟩]) bo W') := Lib.hid fun w6 w7 a6 c6 a7 c7 h6 h7 => by
            have hz := HZ5.out
            have hs6 := h6.2.1.size
            have hzd : w5.drew.heap.size = w5.heap.size := rfl
            have hb6 : But [] wr w6 := HB5D.out.trans h6.2.1 (fun x hx => .inr (by simp [Value.ownBlock] at hx; omega))
            have hb7 : But [] wr w7 := hb6.trans h7.2.1 (fun x hx => .inr (by
              have hx' : (Value.slice a6 4 c6).ownBlock = some x := by simpa using hx
              rcases h6.2.2 with h | ⟨b', h, hb'⟩
              · rw [h] at hx'; simp [Value.ownBlock] at hx'; omega
              · rw [h] at hx'; cases hx'; omega))
            refine ⟨hb7, ?_⟩
            have hq : u8s (enc ⟨op, dst, src, off, imm⟩) = ([.int .u8 op, .int .u8 (src * 16 + dst)] ++ u8s (leB off 2)) ++ u8s (leB imm 4) := by simp [enc, u8s]
            refine YieldAt.mono (HY.out pre ⟨a7, c7, enc ⟨op, dst, src, off, imm⟩⟩ w7 (HJ.out.new _ _ _ HJP.out hb7) ⟨by rw [hq]; exact h7.1, enc_len _⟩ HPL.out) ?_
            rintro e W' (⟨he, h⟩ | ⟨he, h⟩)
            · exact ⟨true, he, by unfold AfterY; rw [if_pos rfl]; exact ⟨h.1, (HB.out.trans (hb7.below (Nat.le_trans HN0.out HB.out.size) (by simp))).trans h.2⟩⟩
            · exact ⟨false, he, by unfold AfterY; rw [if_neg (by decide)]; exact h⟩
          clear hb5d hplen o1 o2 o3 o4 o5
          gi_region_with (first
            | (refine ⟨trivial, ?_⟩; gi_at_call 42; ((with_reducible refine (callsIn_wide.2 (slot16 _ _ _ off HOWN5.out HOFF.out)).mono ?_)); rintro e w6 ⟨a6, c6, rfl, hg6⟩; have e46 := K46.out w6 hg6.2.1; have HG6 := Lib.hid hg6; clear hg6; dsimp only)
            | (refine ⟨trivial, ?_⟩; gi_at_call 41; have h32 := slot32 _ _ _ imm HG6.out.1 HIMM.out; refine (callsIn_wide.2 h32).mono ?_; clear h32; rintro e w7 ⟨a7, c7, rfl, hg7⟩; obtain ⟨hb7, fn, tmps, assign, body, hy, hR⟩ := KY.out w6 w7 a6 c6 a7 c7 HG6.out hg7; have HRR := Lib.hid hR; have HB7 := Lib.hid hb7; clear hg7 hR hb7; dsimp only)
            | (refine HRR.out.mono ?_; rintro e w8 ⟨bo, rfl, hbo⟩; have HBO := Lib.hid hbo; clear hbo; dsimp only))
          all_goals
            cases bo with
            | true =>
              have HJ8 : Hid (J (pre ++ [⟨a7, c7, enc ⟨op, dst, src, off, imm⟩⟩]) w8 ∧ Below n0 W w8) := Lib.hid (by have h := HBO.out; unfold AfterY at h; rwa [if_pos rfl] at h)
              clear HBO HRR hy
              gi_wp2
              go_roundw
              case rel => exact ⟨j + 1, pre ++ [⟨a7, c7, enc ⟨op, dst, src, off, imm⟩⟩], by omega, by go_num, HJ8.out.1, by rw [List.map_append, HPRE.out, List.take_add_one, HX.out]; simp, by rw [List.take_add_one, HX.out]; intro x hx; rcases List.mem_append.1 hx with hx | hx; exact HGD.out x hx; simp at hx; subst hx; exact ⟨hd, hsr⟩, HJ8.out.2⟩
              case measure => simp [intOf]; omega
            | false =>
              have HJ8 : Hid (Jx (pre ++ [⟨a7, c7, enc ⟨op, dst, src, off, imm⟩⟩]) w8) := Lib.hid (by have h := HBO.out; unfold AfterY at h; rwa [if_neg (by decide)] at h)
              clear HBO HRR hy
              gi_wp2
              refine bodyPost_ret (results_none rfl _ _ _) rfl ?_
              exact .inl ⟨⟨_, rfl⟩, .inr ⟨_, trivial, HJ8.out⟩⟩
        · have hbad : Hid (∃ x ∈ prog, ¬ Good x) := Lib.hid ⟨_, List.mem_of_getElem? HX.out, fun h => hsr h.2⟩
          have hb6 : But [] wr (wr.alloc (.cells #[.int .u8 op, .int .u8 dst, .int .u8 src, .int .i16 off, .int .i32 imm] 27)) := (But.refl [] wr).alloc _
          have HJ6 := Lib.hid (HJ.out.new _ _ _ HJP.out hb6)
          clear hb6
          gi_wp2_with fail
          refine ⟨trivial, ?_⟩
          refine (callsIn_wide.2 (must_no 21 _)).mono ?_
          rintro e w1 ⟨he, rfl⟩
          dsimp only [thrown] at he
          subst he
          exact ⟨rfl, .inr ⟨pre, _, ⟨rfl, hbad.out⟩, rfl, HJ6.out⟩⟩
      · have hbad : Hid (∃ x ∈ prog, ¬ Good x) := Lib.hid ⟨_, List.mem_of_getElem? HX.out, fun h => hd h.1⟩
        have hb6 : But [] wr (wr.alloc (.cells #[.int .u8 op, .int .u8 dst, .int .u8 src, .int .i16 off, .int .i32 imm] 27)) := (But.refl [] wr).alloc _
        have HJ6 := Lib.hid (HJ.out.new _ _ _ HJP.out hb6)
        clear hb6
        gi_wp2_with fail
        refine ⟨trivial, ?_⟩
        refine (callsIn_wide.2 (must_no 21 _)).mono ?_
        rintro e w1 ⟨he, rfl⟩
        dsimp only [thrown] at he
        subst he
        exact ⟨rfl, .inr ⟨pre, _, ⟨rfl, hbad.out⟩, rfl, HJ6.out⟩⟩
    · obtain rfl : j = prog.length := by omega
      gi_wp2
      go_end0
      exact .inl ⟨⟨_, rfl⟩, .inl ⟨pre, ⟨by rw [HPRE.out, List.take_length], by have h := HGD.out; rwa [List.take_length] at h⟩, HJP.out⟩⟩
/-- The iterator's contract. -/
theorem slots_seq (n : Nat) (hn : 4 ≤ n) (P n0 : Nat) (s : Value) (prog : List Ins) (w : World) (hP : w.heap[P]? = some (.cells #[s] 28)) (hs : SeesI w s prog) (hok : ∀ x ∈ prog, InsOk x) (hl : prog.length ≤ 1000000000000) (hPn : P < n0) (hsn : ∀ b, s.ownBlock = some b → prog ≠ [] → b < n0) (hn0 : n0 ≤ w.heap.size) :
    SeqB Fence.wide n Tryz.prog 40 #[.pointer (some ⟨P, 0, none⟩)] (fun x : Told8 => #[x.v]) Has8 (Below n0) (SAll prog) (fun _ => True) (TBad prog) prog.length w := fun l J Jx W hW hJ hJx hY h0 =>
  slots1_in n hn l P n0 s prog J Jx W hJ hJx hY (hW.heap hP (by simp)) (hs.but hW (by simp)) hok hl hPn hsn (Nat.le_trans hn0 hW.size) h0
end Go.Proofs.YtddeckkcfcodbaaGreat.M
