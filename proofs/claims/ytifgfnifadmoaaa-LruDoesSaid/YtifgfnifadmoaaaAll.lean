/-
  lru's chain: a range over its links.
-/
import Derived.Test.YtifgfnifadmoaaaLruC
import Derived.Test.YtifgfnifadmoaaaRangeD
import Derived.RegionIn
import Derived.LaidEql
namespace Go.Proofs.Ytifgfnifadmoaaa.M
open Go.RowKit Go.Shelf
set_option linter.unusedVariables false
set_option linter.unusedSectionVars false
set_option linter.unusedSimpArgs false
attribute [local go_sem] Oper.semAt_some
/-- Blocks of cells that are meant stay as they are. -/
structure KeepB (ok : Nat → Prop) (W W' : World) : Prop where
  size : W.heap.size ≤ W'.heap.size
  same : ∀ (b : Nat) (C : Array Value) (T : TypeId) (f : Nat × Nat), ok b → W.heap[b]? = some (.cells C T f) → W'.heap[b]? = some (.cells C T f)
theorem KeepB.refl (ok : Nat → Prop) (W : World) : KeepB ok W W := ⟨Nat.le_refl _, fun _ _ _ _ _ h => h⟩
theorem KeepB.trans {ok : Nat → Prop} {U V W : World} (h : KeepB ok U V) (k : KeepB ok V W) : KeepB ok U W := ⟨Nat.le_trans h.size k.size, fun b C T f hb hl => k.same b C T f hb (h.same b C T f hb hl)⟩
theorem KeepB.of_but {ok : Nat → Prop} {V W : World} {L : List Nat} (h : But L V W) (hL : ∀ x ∈ L, ¬ ok x) : KeepB ok V W := ⟨h.size, fun b C T f hb hl => h.heap hl (fun hm => hL b hm hb)⟩
theorem KeepB.put {ok : Nat → Prop} (V : World) (l : Nat) (o o' : Obj) (h : V.heap[l]? = some o) (hc : o.isCells = false) : KeepB ok V (V.putObj l o') := ⟨by simp [World.putObj], fun b C T f _ hl => by
  refine (World.putObj_heap_other (fun e => ?_)).trans hl
  subst e
  rw [h] at hl
  cases hl
  cases hc⟩
theorem KeepB.cell {ok : Nat → Prop} {V W : World} (h : KeepB ok V W) {b o : Nat} (hb : ok b) (h1 : Cell1 V b o) {v : Value} (hc : V.cell? ⟨b, o, none⟩ = some v) : W.cell? ⟨b, o, none⟩ = some v := by
  obtain ⟨C, T, k1, k2⟩ := h1
  rw [cl_of k1] at hc
  rw [cl_of (h.same b C T _ hb k1), hc]
def NoT {α : Type} (pre : List α) (chain : List PanicEntry) : Prop := False
def encN (x : Nat) : Array Value := #[.pointer (some ⟨x, 0, none⟩)]
def AnyN (l : List Nat) (x : Nat) (w : World) : Prop := x ∈ l
theorem anyN_abides (l : List Nat) (B : Nat) : Abides B (AnyN l) := ⟨fun _ _ _ h _ => h, fun _ _ _ _ _ h _ _ _ => h⟩
def AfterN (ok : Nat → Prop) (J Jx : List Nat → World → Prop) (W : World) (pre : List Nat) (bo : Bool) (W' : World) : Prop := if bo = true then J pre W' ∧ KeepB ok W W' else Jx pre W'
/-- How many links are left. -/
def leftN (P : Nat) (l : List Nat) : Value → Nat
  | .pointer (some a) => if a.block = P then 0 else l.length - l.idxOf a.block
  | _ => 0
theorem idx_get {l : List Nat} (hn : l.Nodup) {j : Nat} (hj : j < l.length) : l.idxOf (l.getD j 0) = j := by
  have hm := getD_mem hj
  have h1 : l.idxOf (l.getD j 0) < l.length := List.idxOf_lt_length_iff.2 hm
  have h2 : l.getD (l.idxOf (l.getD j 0)) 0 = l.getD j 0 := by
    rw [List.getD_eq_getElem?_getD, List.getElem?_eq_getElem h1]
    exact List.getElem_idxOf h1
  exact getD_inj hn h1 hj h2
theorem left_in {P : Nat} {l : List Nat} (hn : (P :: l).Nodup) {j : Nat} (hj : j < l.length) : leftN P l (ptr (nd P l (j + 1))) = l.length - j := by
  rw [List.nodup_cons] at hn
  rw [nd_in hj]
  show (if l.getD j 0 = P then 0 else l.length - l.idxOf (l.getD j 0)) = _
  rw [if_neg (fun e : l.getD j 0 = P => hn.1 (by rw [← e]; exact getD_mem hj)), idx_get hn.2 hj]
theorem left_le {P : Nat} {l : List Nat} (hn : (P :: l).Nodup) {j : Nat} (hj : j ≤ l.length) : leftN P l (ptr (nd P l (j + 1))) = l.length - j := by
  by_cases e : j < l.length
  · exact left_in hn e
  · obtain rfl : j = l.length := by omega
    rw [nd_last, Nat.sub_self]
    exact if_pos rfl
theorem run_neq_ptr_other {P : Program} (w : World) {t te : TypeId} {j : TypeInfo} {a b : Addr} {ca cb : Array Value} {ta tb : TypeId} (hp : P.underlying t = some (.pointer te)) (hte : P.info? te = some j) (hsz : j.size ≠ 0)
    (hne : a ≠ b) (ha : w.heap[a.block]? = some (.cells ca ta (0, 0))) (hb : w.heap[b.block]? = some (.cells cb tb (0, 0))) : (binOp .neq t (.pointer (some a)) (.pointer (some b))).run P w = .ok (.bool true) w := by
  have h : ∀ d : Nat, (Op.equalIn (d + 1) t (.pointer (some a)) (.pointer (some b))).run P w = .ok false w := fun d => by simp [Op.equalIn, run_underlying hp, sizeOf, typeInfo, hte, hsz, run_sameAddr_other w hne ha hb]
  simp only [binOp]
  simp [Op.equal, Op.maxDepth, h 9999]
theorem run_neq_ptr_same {P : Program} (w : World) {t te : TypeId} {j : TypeInfo} (a : Addr) (hp : P.underlying t = some (.pointer te)) (hte : P.info? te = some j) (hsz : j.size ≠ 0) : (binOp .neq t (.pointer (some a)) (.pointer (some a))).run P w = .ok (.bool false) w := by
  have h : ∀ d : Nat, (Op.equalIn (d + 1) t (.pointer (some a)) (.pointer (some a))).run P w = .ok true w := fun d => by simp [Op.equalIn, run_underlying hp, sizeOf, typeInfo, hte, hsz, run_sameAddr_same]
  simp only [binOp]
  simp [Op.equal, Op.maxDepth, h 9999]
theorem link_info : ∃ j, Try.prog.info? 59 = some j ∧ j.size ≠ 0 := by
  have h : (Try.prog.info? 59).map (·.size) = some 4 := by kernel_rfl
  obtain ⟨j, h1, h2⟩ := Option.map_eq_some_iff.1 h
  exact ⟨j, h1, by rw [h2]; decide⟩
theorem all_c (P : Nat) (w : World) : Calls Try.prog 36 #[.pointer (some ⟨P, 4, none⟩)] w fun e w' => e = .returned (.func (.func 48) #[] #[.pointer (some ⟨w.heap.size, 0, none⟩)]) ∧ w' = w.alloc (.cells #[.pointer (some ⟨P, 4, none⟩)] 89) := by
  have hmf : ∀ (fn : Fn) (first cap : Array Value) (w : World), (Instr.makeFunc fn first cap).run Try.prog w = .ok (.func fn first cap) w := fun _ _ _ _ => rfl
  go_enter Try.func36, Try.ntmps36
  go_wp2_with fail
  go_ret
  exact ⟨rfl, rfl⟩
set_option maxRecDepth 100000 in
set_option maxHeartbeats 4000000 in
theorem all1_in (N : Nat) (hN : 1 ≤ N) (q P B : Nat) (l : List Nat) (ok : Nat → Prop) (J Jx : List Nat → World → Prop) (W : World)
    (hY : ∀ pre x W1, J pre W1 → AnyN l x W1 → pre.length < l.length → YieldAt Fence.wide (N - 1) Try.prog q (encN x) W1 fun e W' =>
      (e = .returned (.bool true) ∧ J (pre ++ [x]) W' ∧ KeepB ok W1 W') ∨ (e = .returned (.bool false) ∧ Jx (pre ++ [x]) W'))
    (h1 : W.heap[B]? = some (.cells #[.pointer (some ⟨P, 4, none⟩)] 89)) (hc : Chain W P l) (ok1 : ok B) (ok2 : ok P) (ok3 : ∀ x ∈ l, ok x) (h0 : J [] W) :
    CallsIn Fence.wide N Try.prog 48 #[.func (.yield q) #[] #[], .pointer (some ⟨B, 0, none⟩)] W (SeqPost (fun xs => xs = l) (fun pre => pre <+: l) NoT J Jx) := by
  have C1 := Lib.hid (fun wr (h : KeepB ok W wr) => cl_of (h.same B _ _ _ ok1 h1) 0)
  have hok : ∀ i, ok (nd P l i).1 := fun i => by
    unfold nd
    split
    · exact ok3 _ (getD_mem (by omega))
    · exact ok2
  have CN := Lib.hid (fun wr (h : KeepB ok W wr) i (hi : i ≤ l.length) => h.cell (hok i) (hc.cells i hi).2 (hc.next i hi))
  have HBK := Lib.hid (fun wr (h : KeepB ok W wr) i (hi : i ≤ l.length) => (show ∃ C T, wr.heap[(nd P l i).1]? = some (.cells C T (0, 0)) from by obtain ⟨C, T, k1, _⟩ := (hc.cells i hi).1; exact ⟨C, T, h.same _ _ _ _ (hok i) k1⟩))
  have HN := Lib.hid hc.nodup
  have HY := Lib.hid hY
  clear h1 hY ok1 ok2 ok3 hok hc
  refine callsIn_of_wp Try.func48 rfl trivial ?_ rfl
  simp only [Try.ntmps48, List.size_toArray, List.length_cons, List.length_nil, Nat.reduceAdd, Nat.reduceSub, Array.replicate_succ, Array.replicate_zero, List.push_toArray, List.append_toArray, List.nil_append, List.cons_append]
  have c1 : W.cell? ⟨B, 0, none⟩ = some (.pointer (some ⟨P, 4, none⟩)) := C1.out W (KeepB.refl _ _)
  have c2 : W.cell? ⟨P, 7, none⟩ = some (.pointer (some ⟨(nd P l 1).1, (nd P l 1).2, none⟩)) := by have h := CN.out W (KeepB.refl _ _) 0 (by omega); rw [nd_zero] at h; exact h
  gi_wp2
  clear c1 c2
  gi_loopw [3] (fun p wr => ∃ (j : Nat), j ≤ l.length ∧ p = ptr (nd P l (j + 1)) ∧ J (l.take j) wr ∧ KeepB ok W wr) (fun p _ => leftN P l p)
  case atStart => exact ⟨0, Nat.zero_le _, rfl, by rw [List.take_zero]; exact h0, KeepB.refl _ _⟩
  case round =>
    obtain ⟨j, hj, rfl, hJ, hb⟩ := hrel
    have HJP := Lib.hid hJ
    have HB := Lib.hid hb
    have c1 : wr.cell? ⟨B, 0, none⟩ = some (.pointer (some ⟨P, 4, none⟩)) := C1.out wr hb
    clear hJ hb h0
    by_cases hlt : j < l.length
    · obtain ⟨x, hx⟩ : ∃ x, x = l.getD j 0 := ⟨_, rfl⟩
      have hnd : ptr (nd P l (j + 1)) = .pointer (some ⟨x, 0, none⟩) := by rw [nd_in hlt, hx]; rfl
      have HLJ : Hid (leftN P l (.pointer (some ⟨x, 0, none⟩)) = l.length - j) := Lib.hid (by rw [← hnd]; exact left_in HN.out hlt)
      have HNX := Lib.hid (fun wz (h : KeepB ok W wz) => (show wz.cell? ⟨x, 3, none⟩ = some (.pointer (some ⟨(nd P l (j + 2)).1, (nd P l (j + 2)).2, none⟩)) from by have h2 := CN.out wz h (j + 1) hlt; rw [nd_in hlt, ← hx] at h2; exact h2))
      have HTK : Hid (l.take j ++ [x] = l.take (j + 1)) := Lib.hid (by rw [List.take_add_one, List.getElem?_eq_getElem hlt, hx, List.getD_eq_getElem?_getD, List.getElem?_eq_getElem hlt]; rfl)
      have hyy : YieldAt Fence.wide (N - 1) Try.prog q (encN x) wr fun e W' => ∃ bo, e = .returned (.bool bo) ∧ AfterN ok J Jx W (l.take j ++ [x]) bo W' := by
        refine YieldAt.mono (HY.out (l.take j) x wr HJP.out (by rw [hx]; exact getD_mem hlt) (by rw [List.length_take]; omega)) ?_
        rintro e W' (⟨he, h⟩ | ⟨he, h⟩)
        · exact ⟨true, he, by unfold AfterN; rw [if_pos rfl]; exact ⟨h.1, HB.out.trans h.2⟩⟩
        · exact ⟨false, he, by unfold AfterN; rw [if_neg (by decide)]; exact h⟩
      rw [hnd]
      unfold encN at hyy
      obtain ⟨C5, T5, k5⟩ := HBK.out wr HB.out (j + 1) hlt
      obtain ⟨C6, T6, k6⟩ := HBK.out wr HB.out 0 (by omega)
      rw [nd_in hlt, ← hx] at k5
      rw [nd_zero] at k6
      obtain ⟨jl, jl1, jl2⟩ := link_info
      have hneq := run_neq_ptr_other (P := Try.prog) wr (a := ⟨x, 0, none⟩) (b := ⟨P, 4, none⟩) Try.underlying57 jl1 jl2 (by simp) k5 k6
      clear k5 k6 jl1 jl2
      obtain ⟨fn, tmps, assign, body, hy, hR⟩ := hyy
      have HRR := Lib.hid hR
      have HLT := Lib.hid hlt
      clear hR hnd hx hlt
      gi_wp2
      refine HRR.out.mono ?_
      rintro e w8 ⟨bo, rfl, hbo⟩
      have HBO := Lib.hid hbo
      clear hbo
      cases bo with
      | true =>
        have HJ8 : Hid (J (l.take (j + 1)) w8 ∧ KeepB ok W w8) := Lib.hid (by have h := HBO.out; unfold AfterN at h; rw [if_pos rfl] at h; rw [← HTK.out]; exact h)
        have d3 := HNX.out w8 HJ8.out.2
        clear HBO HRR hy
        gi_wp2
        go_roundw
        case rel => exact ⟨j + 1, HLT.out, rfl, HJ8.out.1, HJ8.out.2⟩
        case measure =>
          have h1 := left_le HN.out (j := j + 1) HLT.out
          have h2 := HLJ.out
          have h3 := HLT.out
          have h4 : leftN P l (.pointer (some ⟨(nd P l (j + 2)).1, (nd P l (j + 2)).2, none⟩)) = l.length - (j + 1) := h1
          show leftN P l (.pointer (some ⟨(nd P l (j + 2)).1, (nd P l (j + 2)).2, none⟩)) < leftN P l (.pointer (some ⟨x, 0, none⟩))
          rw [h4, h2]
          omega
      | false =>
        have HJ8 : Hid (Jx (l.take j ++ [x]) w8) := Lib.hid (by have h := HBO.out; unfold AfterN at h; rwa [if_neg (by decide)] at h)
        have HPR : Hid (l.take j ++ [x] <+: l) := Lib.hid (by rw [HTK.out]; exact List.take_prefix _ _)
        clear HBO HRR hy
        gi_wp2
        refine bodyPost_ret (results_none rfl _ _ _) rfl ?_
        exact .inl ⟨⟨_, rfl⟩, .inr ⟨_, HPR.out, HJ8.out⟩⟩
    · obtain rfl : j = l.length := by omega
      have hnd : ptr (nd P l (l.length + 1)) = .pointer (some ⟨P, 4, none⟩) := by rw [nd_last]; rfl
      have HEND : Hid (SeqPost (fun xs => xs = l) (fun pre => pre <+: l) NoT J Jx (.returned (.tuple #[])) wr) := Lib.hid (.inl ⟨⟨_, rfl⟩, .inl ⟨_, rfl, by have h := HJP.out; rwa [List.take_length] at h⟩⟩)
      rw [hnd]
      obtain ⟨jl, jl1, jl2⟩ := link_info
      have hneq := run_neq_ptr_same (P := Try.prog) wr ⟨P, 4, none⟩ Try.underlying57 jl1 jl2
      clear hnd hlt jl1 jl2
      gi_wp2
      refine bodyPost_ret (results_none rfl _ _ _) rfl ?_
      exact HEND.out
/-- The iterator's contract. -/
theorem all_seq (N : Nat) (hN : 1 ≤ N) (P B : Nat) (l : List Nat) (ok : Nat → Prop) (w : World) (h1 : w.heap[B]? = some (.cells #[.pointer (some ⟨P, 4, none⟩)] 89)) (hc : Chain w P l) (ok1 : ok B) (ok2 : ok P) (ok3 : ∀ x ∈ l, ok x) :
    SeqB Fence.wide N Try.prog 48 #[.pointer (some ⟨B, 0, none⟩)] encN (AnyN l) (KeepB ok) (fun xs => xs = l) (fun pre => pre <+: l) NoT l.length w := fun q J Jx W hW hJ hJx hY h0 =>
  all1_in N hN q P B l ok J Jx W hY (hW.heap h1 (by simp)) (hc.but hW (by simp) (by simp)) ok1 ok2 ok3 h0
end Go.Proofs.Ytifgfnifadmoaaa.M
