/-
  scalar.work.rules$5: the iterator over the four rules.
-/
import Derived.Test.YtmbmmcippglfoaaGB
import Derived.Test.YtmbmmcippglfoaaRange
namespace Go.Proofs.Ytmbmmcippglfoaa.M
open Go.RowKit Go.Shelf
set_option linter.unusedVariables false
set_option linter.unusedSectionVars false
set_option linter.unusedSimpArgs false
attribute [local go_sem] Oper.semAt_some
structure KeepIn (ok : Nat → Prop) (W W' : World) : Prop where
  size : W.heap.size ≤ W'.heap.size
  same : ∀ b, ok b → b < W.heap.size → W'.heap[b]? = W.heap[b]?
theorem KeepIn.refl (ok : Nat → Prop) (W : World) : KeepIn ok W W := ⟨Nat.le_refl _, fun _ _ _ => rfl⟩
theorem KeepIn.trans {ok : Nat → Prop} {U V W : World} (h : KeepIn ok U V) (k : KeepIn ok V W) : KeepIn ok U W := ⟨Nat.le_trans h.size k.size, fun b hb hl => (k.same b hb (by have := h.size; omega)).trans (h.same b hb hl)⟩
theorem KeepIn.cell {ok : Nat → Prop} {V W : World} (h : KeepIn ok V W) {p : Addr} {v : Value} (hp : ok p.block) (hc : V.cell? p = some v) : W.cell? p = some v := by
  have h1 := h.same p.block hp (cell_lt hc)
  rw [← hc]
  unfold World.cell?
  rw [h1]
theorem KeepIn.heap {ok : Nat → Prop} {V W : World} (h : KeepIn ok V W) {b : Nat} {o : Obj} (hp : ok b) (hc : V.heap[b]? = some o) : W.heap[b]? = some o := (h.same b hp (lt_of hc)).trans hc
theorem KeepIn.of_but {ok : Nat → Prop} {V W : World} {L : List Nat} (h : But L V W) (hL : ∀ x ∈ L, ¬ ok x) : KeepIn ok V W := ⟨h.size, fun b hb hl => h.block b hl (fun hm => hL b hm hb)⟩
def NoT {α : Type} (pre : List α) (chain : List PanicEntry) : Prop := False
def ruleFn (b3 b4 : Nat) : Nat → Value
  | 0 => .func (.func 112) #[] #[.pointer (some ⟨b3, 0, none⟩), .pointer (some ⟨b4, 0, none⟩)]
  | 1 => .func (.func 114) #[] #[.pointer (some ⟨b4, 0, none⟩), .pointer (some ⟨b3, 0, none⟩)]
  | 2 => .func (.func 116) #[] #[.pointer (some ⟨b3, 0, none⟩)]
  | _ => .func (.func 118) #[] #[.pointer (some ⟨b3, 0, none⟩)]
def encF (b3 b4 : Nat) (i : Nat) : Array Value := #[ruleFn b3 b4 i]
def AnyF (i : Nat) (w : World) : Prop := i < 4
def FAll (xs : List Nat) : Prop := xs = List.range 4
def FPre (xs : List Nat) : Prop := ∃ k, k ≤ 4 ∧ xs = List.range k
def AfterF (ok : Nat → Prop) (J Jx : List Nat → World → Prop) (W : World) (pre : List Nat) (bo : Bool) (W' : World) : Prop := if bo = true then J pre W' ∧ KeepIn ok W W' else Jx pre W'
theorem fns_at (b3 b4 j : Nat) (hj : j < 4) : (ruleFns b3 b4)[j]? = some (ruleFn b3 b4 j) := by
  match j, hj with
  | 0, _ => rfl
  | 1, _ => rfl
  | 2, _ => rfl
  | 3, _ => rfl
set_option maxRecDepth 100000 in
set_option maxHeartbeats 4000000 in
theorem rules5_in (n : Nat) (hn : 1 ≤ n) (l q5 bs b3 b4 : Nat) (ok : Nat → Prop) (J Jx : List Nat → World → Prop) (W : World)
    (hY : ∀ pre x W1, J pre W1 → AnyF x W1 → pre.length < 4 → YieldAt Fence.wide (n - 1) Try.prog l (encF b3 b4 x) W1 fun e W' =>
      (e = .returned (.bool true) ∧ J (pre ++ [x]) W' ∧ KeepIn ok W1 W') ∨ (e = .returned (.bool false) ∧ Jx (pre ++ [x]) W'))
    (h5 : W.cell? ⟨q5, 0, none⟩ = some (.slice (some ⟨bs, 0, none⟩) 4 4)) (hb : ∃ t, W.heap[bs]? = some (.cells (ruleFns b3 b4) t)) (ok5 : ok q5) (okb : ok bs) (h0 : J [] W) :
    CallsIn Fence.wide n Try.prog 119 #[.func (.yield l) #[] #[], .pointer (some ⟨q5, 0, none⟩)] W (SeqPost FAll FPre NoT J Jx) := by
  obtain ⟨t, hbs⟩ := hb
  have C5 := Lib.hid (fun wr (h : KeepIn ok W wr) => h.cell (p := ⟨q5, 0, none⟩) ok5 h5)
  have CB := Lib.hid (fun wr (h : KeepIn ok W wr) (j : Nat) (hj : j < 4) => (cl_of (h.heap okb hbs) j).trans (fns_at b3 b4 j hj))
  have c5 := h5
  have HY := Lib.hid hY
  clear hbs okb ok5 h5 hY
  refine callsIn_of_wp Try.func119 rfl trivial ?_ rfl
  simp only [Try.ntmps119, List.size_toArray, List.length_cons, List.length_nil, Nat.reduceAdd, Nat.reduceSub, Array.replicate_succ, Array.replicate_zero, List.push_toArray, List.append_toArray, List.nil_append, List.cons_append]
  gi_wp2
  clear c5
  gi_loopw [7] (fun i wr => ∃ (j : Nat), j ≤ 4 ∧ i = .int .i64 (j : Int) ∧ J (List.range j) wr ∧ KeepIn ok W wr) (fun i _ => (4 - intOf i).toNat)
  case atStart =>
    exact ⟨0, by omega, rfl, h0, KeepIn.refl _ _⟩
  case round =>
    obtain ⟨j, hj, rfl, hJ, hb⟩ := hrel
    have HJP := Lib.hid hJ
    have HB := Lib.hid hb
    have cb := CB.out wr hb j
    clear hJ hb h0
    by_cases hj4 : j < 4
    · have c0 := cb hj4
      have hj0 : (0 : Int) ≤ j := by omega
      have hj2 : (j : Int) < 4 := by omega
      have hyy : YieldAt Fence.wide (n - 1) Try.prog l (encF b3 b4 j) wr fun e W' => ∃ bo, e = .returned (.bool bo) ∧ AfterF ok J Jx W (List.range j ++ [j]) bo W' := by
        refine YieldAt.mono (HY.out (List.range j) j wr HJP.out hj4 (by simpa using hj4)) ?_
        rintro e W' (⟨he, h⟩ | ⟨he, h⟩)
        · exact ⟨true, he, by unfold AfterF; rw [if_pos rfl]; exact ⟨h.1, HB.out.trans h.2⟩⟩
        · exact ⟨false, he, by unfold AfterF; rw [if_neg (by decide)]; exact h⟩
      obtain ⟨fn, tmps, assign, body, hy, hR⟩ := hyy
      have HRR := Lib.hid hR
      clear hR cb
      unfold encF at hy
      obtain ⟨rf, hrf⟩ : ∃ v, v = ruleFn b3 b4 j := ⟨_, rfl⟩
      rw [← hrf] at hy c0
      have HJ4 := Lib.hid hj4
      clear hrf hj4
      gi_wp2
      refine HRR.out.mono ?_
      rintro e w8 ⟨bo, rfl, hbo⟩
      have HBO := Lib.hid hbo
      clear hbo
      cases bo with
      | true =>
        have HJ8 : Hid (J (List.range j ++ [j]) w8 ∧ KeepIn ok W w8) := Lib.hid (by have h := HBO.out; unfold AfterF at h; rwa [if_pos rfl] at h)
        have hw1 : wrap64 ((j : Int) + 1) = j + 1 := by rw [wrap64]; omega
        clear HBO HRR hy
        gi_wp2
        go_roundw
        case rel => exact ⟨j + 1, by have := HJ4.out; omega, by simp, by rw [List.range_succ]; exact HJ8.out.1, HJ8.out.2⟩
        case measure => have := HJ4.out; simp [intOf]; omega
      | false =>
        have HJ8 : Hid (Jx (List.range j ++ [j]) w8) := Lib.hid (by have h := HBO.out; unfold AfterF at h; rwa [if_neg (by decide)] at h)
        clear HBO HRR hy
        gi_wp2
        refine bodyPost_ret (results_none rfl _ _ _) rfl ?_
        exact .inl ⟨⟨_, rfl⟩, .inr ⟨_, ⟨j + 1, by have := HJ4.out; omega, (List.range_succ).symm⟩, HJ8.out⟩⟩
    · obtain rfl : j = 4 := by omega
      have HEND : Hid (SeqPost FAll FPre NoT J Jx (.returned (.tuple #[])) wr) := Lib.hid (.inl ⟨⟨_, rfl⟩, .inl ⟨_, rfl, HJP.out⟩⟩)
      clear cb
      gi_wp2
      refine bodyPost_ret (results_none rfl _ _ _) rfl ?_
      exact HEND.out
/-- The iterator's contract. -/
theorem rules5_seq (n : Nat) (hn : 1 ≤ n) (q5 bs b3 b4 : Nat) (ok : Nat → Prop) (w : World) (h5 : w.cell? ⟨q5, 0, none⟩ = some (.slice (some ⟨bs, 0, none⟩) 4 4)) (hb : ∃ t, w.heap[bs]? = some (.cells (ruleFns b3 b4) t)) (ok5 : ok q5) (okb : ok bs) :
    SeqB Fence.wide n Try.prog 119 #[.pointer (some ⟨q5, 0, none⟩)] (encF b3 b4) AnyF (KeepIn ok) FAll FPre NoT 4 w := fun l J Jx W hW hJ hJx hY h0 =>
  rules5_in n hn l q5 bs b3 b4 ok J Jx W hY (cell_but hW h5 (by simp)) (by obtain ⟨t, ht⟩ := hb; exact ⟨t, hW.heap ht (by simp)⟩) ok5 okb h0
end Go.Proofs.Ytmbmmcippglfoaa.M
