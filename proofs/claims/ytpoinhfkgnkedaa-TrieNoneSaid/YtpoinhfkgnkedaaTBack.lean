/-
  slices.Backward of bytes: the iterator.
-/
import Derived.Test.YtpoinhfkgnkedaaRange
import Derived.Test.YtpoinhfkgnkedaaAlloc
import Derived.Test.YtpoinhfkgnkedaaProg
namespace Go.Proofs.Ytpoinhfkgnkedaa.M
open Go.RowKit Go.Shelf
set_option linter.unusedVariables false
set_option linter.unusedSectionVars false
set_option linter.unusedSimpArgs false
attribute [local go_sem] Oper.semAt_some
def u8s (l : List Int) : List Value := l.map (.int .u8)
theorem u8s_len (l : List Int) : (u8s l).length = l.length := by simp [u8s]
theorem u8s_at {l : List Int} {i : Nat} {x : Int} (h : l[i]? = some x) : (u8s l)[i]? = some (.int .u8 x) := by simp [u8s, h]
def ByteL (l : List Int) : Prop := ∀ x ∈ l, 0 ≤ x ∧ x ≤ 255
def NoT {α : Type} (pre : List α) (chain : List PanicEntry) : Prop := False
theorem back_c (a : Option Addr) (n c : Nat) (w : World) : Calls Try.prog 60 #[.slice a n c] w fun e w' => e = .returned (.func (.func 75) #[] #[.pointer (some ⟨w.heap.size, 0, none⟩)]) ∧ w' = w.alloc (.cells #[.slice a n c] 26) := by
  have hmf : ∀ (fn : Fn) (first cap : Array Value) (w : World), (Instr.makeFunc fn first cap).run Try.prog w = .ok (.func fn first cap) w := fun _ _ _ _ => rfl
  go_enter Try.func60, Try.ntmps60
  go_wp2_with fail
  go_ret
  exact ⟨rfl, rfl⟩
/-- The blocks that are meant stay as they are. -/
structure KeepIn (ok : Nat → Prop) (W W' : World) : Prop where
  size : W.heap.size ≤ W'.heap.size
  same : ∀ b, ok b → b < W.heap.size → W'.heap[b]? = W.heap[b]?
theorem KeepIn.refl (ok : Nat → Prop) (W : World) : KeepIn ok W W := ⟨Nat.le_refl _, fun _ _ _ => rfl⟩
theorem KeepIn.trans {ok : Nat → Prop} {U V W : World} (h : KeepIn ok U V) (k : KeepIn ok V W) : KeepIn ok U W := ⟨Nat.le_trans h.size k.size, fun b hb hl => (k.same b hb (by have := h.size; omega)).trans (h.same b hb hl)⟩
theorem KeepIn.cell {ok : Nat → Prop} {V W : World} (h : KeepIn ok V W) {p : Addr} {v : Value} (hp : ok p.block) (hc : V.cell? p = some v) : W.cell? p = some v := by
  have h1 := h.same p.block hp (cell_lt hc)
  rw [← hc]
  unfold World.cell?
  rw [h1]
theorem KeepIn.of_but {ok : Nat → Prop} {V W : World} {L : List Nat} (h : But L V W) (hL : ∀ x ∈ L, ¬ ok x) : KeepIn ok V W := ⟨h.size, fun b hb hl => h.block b hl (fun hm => hL b hm hb)⟩
def encB (x : Int × Int) : Array Value := #[.int .i64 x.1, .int .u8 x.2]
def AnyA (x : Int × Int) (w : World) : Prop := 0 ≤ x.2 ∧ x.2 ≤ 255
def BAll (bs : List Int) (xs : List (Int × Int)) : Prop := xs.map Prod.snd = bs.reverse
def AfterB (ok : Nat → Prop) (J Jx : List (Int × Int) → World → Prop) (W : World) (pre : List (Int × Int)) (bo : Bool) (W' : World) : Prop := if bo = true then J pre W' ∧ KeepIn ok W W' else Jx pre W'
set_option maxRecDepth 100000 in
set_option maxHeartbeats 4000000 in
theorem back1_in (n : Nat) (hn : 1 ≤ n) (l P : Nat) (ok : Nat → Prop) (s : Value) (bs : List Int) (J Jx : List (Int × Int) → World → Prop) (W : World)
    (hY : ∀ pre x W1, J pre W1 → AnyA x W1 → pre.length < bs.length → YieldAt Fence.wide (n - 1) Try.prog l (encB x) W1 fun e W' =>
      (e = .returned (.bool true) ∧ J (pre ++ [x]) W' ∧ KeepIn ok W1 W') ∨ (e = .returned (.bool false) ∧ Jx (pre ++ [x]) W'))
    (hP : W.heap[P]? = some (.cells #[s] 26)) (hs : Sees W s (u8s bs)) (hr : ∀ x ∈ bs, 0 ≤ x ∧ x ≤ 255) (hl : bs.length ≤ 1000000000000) (hPn : ok P) (hsn : ∀ b, s.ownBlock = some b → ok b) (h0 : J [] W) :
    CallsIn Fence.wide n Try.prog 75 #[.func (.yield l) #[] #[], .pointer (some ⟨P, 0, none⟩)] W (SeqPost (BAll bs) (fun _ => True) NoT J Jx) := by
  obtain ⟨a, c, rfl, hsc⟩ : ∃ a c, s = .slice a bs.length c ∧ ∀ (i : Nat) (x : Int), bs[i]? = some x → ∃ ad, a = some ad ∧ W.cell? (ad.add i) = some (.int .u8 x) := by
    rcases hs with ⟨rfl, h⟩ | ⟨ad, c, rfl, _, h⟩
    · have h0 : bs = [] := by simpa [u8s] using h
      subst h0
      exact ⟨none, 0, rfl, fun i x hx => by simp at hx⟩
    · exact ⟨some ad, c, by rw [u8s_len], fun i x hx => ⟨ad, rfl, h i _ (u8s_at hx)⟩⟩
  have c0 : W.cell? ⟨P, 0, none⟩ = some (.slice a bs.length c) := cl_of hP 0
  have C0 := Lib.hid (fun wr (h : KeepIn ok W wr) => h.cell (p := ⟨P, 0, none⟩) hPn c0)
  have hl0 : (0 : Int) ≤ bs.length := by omega
  have HSC := Lib.hid hsc
  have HY := Lib.hid hY
  have HSN := Lib.hid hsn
  have HR0 := Lib.hid hr
  clear hr
  clear hP hsc hY hsn hPn
  refine callsIn_of_wp Try.func75 rfl trivial ?_ rfl
  simp only [Try.ntmps75, List.size_toArray, List.length_cons, List.length_nil, Nat.reduceAdd, Nat.reduceSub, Array.replicate_succ, Array.replicate_zero, List.push_toArray, List.append_toArray, List.nil_append, List.cons_append]
  have hw0 : wrap64 ((bs.length : Int) - 1) = bs.length - 1 := by rw [wrap64]; omega
  gi_wp2
  clear c0
  gi_loopw [3] (fun i wr => ∃ (j : Nat) (pre : List (Int × Int)), j ≤ bs.length ∧ i = .int .i64 ((j : Int) - 1) ∧ J pre wr ∧ pre.map Prod.snd = (bs.drop j).reverse ∧ KeepIn ok W wr) (fun i _ => (intOf i + 1).toNat)
  case atStart =>
    exact ⟨bs.length, [], Nat.le_refl _, rfl, h0, by simp, KeepIn.refl _ _⟩
  case round =>
    obtain ⟨j, pre, hj, rfl, hJ, hpre, hb⟩ := hrel
    have HJP := Lib.hid hJ
    have HPRE := Lib.hid hpre
    have HB := Lib.hid hb
    have c0 := C0.out wr hb
    clear hJ hpre hb h0
    cases j with
    | zero =>
      have HEND : Hid (SeqPost (BAll bs) (fun _ => True) NoT J Jx (.returned (.tuple #[])) wr) := Lib.hid (.inl ⟨⟨_, rfl⟩, .inl ⟨pre, by have h := HPRE.out; simpa [BAll] using h, HJP.out⟩⟩)
      gi_wp2
      refine bodyPost_ret (results_none rfl _ _ _) rfl ?_
      exact HEND.out
    | succ j =>
      obtain ⟨x, hx⟩ : ∃ x, bs[j]? = some x := ⟨_, List.getElem?_eq_getElem (by omega)⟩
      obtain ⟨ad, rfl, hc⟩ := HSC.out j x hx
      have d0 : wr.cell? (ad.add j) = some (.int .u8 x) := HB.out.cell (p := ad.add j) (by rw [block_of_add]; exact HSN.out _ rfl) hc
      have hj1 : ((j + 1 : Nat) : Int) - 1 = j := by omega
      have hj0 : (0 : Int) ≤ j := by omega
      have hj2 : (j : Int) < bs.length := by omega
      have hplen : pre.length < bs.length := by
        have h := congrArg List.length HPRE.out
        simp only [List.length_map, List.length_reverse, List.length_drop] at h
        omega
      have hnew : ((pre ++ [((j : Int), x)]).map Prod.snd) = (bs.drop j).reverse := by
        rw [List.map_append, HPRE.out, List.drop_eq_getElem_cons (i := j) (by omega), List.reverse_cons]
        have hxx : bs[j] = x := (List.getElem?_eq_some_iff.1 hx).2
        rw [hxx]
        rfl
      have HNEW := Lib.hid hnew
      rw [hj1]
      have hyy : YieldAt Fence.wide (n - 1) Try.prog l (encB ((j : Int), x)) wr fun e W' => ∃ bo, e = .returned (.bool bo) ∧ AfterB ok J Jx W (pre ++ [((j : Int), x)]) bo W' := by
        refine YieldAt.mono (HY.out pre ((j : Int), x) wr HJP.out (HR0.out x (List.mem_of_getElem? hx)) hplen) ?_
        rintro e W' (⟨he, h⟩ | ⟨he, h⟩)
        · exact ⟨true, he, by unfold AfterB; rw [if_pos rfl]; exact ⟨h.1, HB.out.trans h.2⟩⟩
        · exact ⟨false, he, by unfold AfterB; rw [if_neg (by decide)]; exact h⟩
      obtain ⟨fn, tmps, assign, body, hy, hR⟩ := hyy
      have HRR := Lib.hid hR
      clear hc hx hplen hnew hR
      unfold encB at hy
      gi_wp2
      refine HRR.out.mono ?_
      rintro e w8 ⟨bo, rfl, hbo⟩
      have HBO := Lib.hid hbo
      clear hbo
      cases bo with
      | true =>
        have HJ8 : Hid (J (pre ++ [((j : Int), x)]) w8 ∧ KeepIn ok W w8) := Lib.hid (by have h := HBO.out; unfold AfterB at h; rwa [if_pos rfl] at h)
        have hw1 : wrap64 ((j : Int) - 1) = j - 1 := by rw [wrap64]; omega
        clear HBO HRR hy
        gi_wp2
        go_roundw
        case rel => exact ⟨j, pre ++ [((j : Int), x)], by omega, rfl, HJ8.out.1, HNEW.out, HJ8.out.2⟩
        case measure => simp [intOf]
      | false =>
        have HJ8 : Hid (Jx (pre ++ [((j : Int), x)]) w8) := Lib.hid (by have h := HBO.out; unfold AfterB at h; rwa [if_neg (by decide)] at h)
        clear HBO HRR hy
        gi_wp2
        refine bodyPost_ret (results_none rfl _ _ _) rfl ?_
        exact .inl ⟨⟨_, rfl⟩, .inr ⟨_, trivial, HJ8.out⟩⟩
/-- The iterator's contract. -/
theorem back_seq (n : Nat) (hn : 1 ≤ n) (P : Nat) (ok : Nat → Prop) (s : Value) (bs : List Int) (w : World) (hP : w.heap[P]? = some (.cells #[s] 26)) (hs : Sees w s (u8s bs)) (hr : ∀ x ∈ bs, 0 ≤ x ∧ x ≤ 255) (hl : bs.length ≤ 1000000000000) (hPn : ok P) (hsn : ∀ b, s.ownBlock = some b → ok b) :
    SeqB Fence.wide n Try.prog 75 #[.pointer (some ⟨P, 0, none⟩)] encB AnyA (KeepIn ok) (BAll bs) (fun _ => True) NoT bs.length w := fun l J Jx W hW hJ hJx hY h0 =>
  back1_in n hn l P ok s bs J Jx W hY (hW.heap hP (by simp)) (hs.but hW (by simp)) hr hl hPn hsn h0
end Go.Proofs.Ytpoinhfkgnkedaa.M
