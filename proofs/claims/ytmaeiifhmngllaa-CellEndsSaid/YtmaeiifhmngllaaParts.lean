/-
  cell's parts: the iterator.
-/
import Derived.Test.YtmaeiifhmngllaaPartsA
import Derived.Test.YtmaeiifhmngllaaRange
import Derived.RegionIn
namespace Go.Proofs.Ytmaeiifhmngllaa.M
open Go.RowKit Go.Shelf
set_option linter.unusedVariables false
set_option linter.unusedSectionVars false
set_option linter.unusedSimpArgs false
attribute [local go_sem] Oper.semAt_some
/-- The blocks of cells that are meant stay as they are. -/
structure KeepX (ok : Nat → TypeId → Prop) (W W' : World) : Prop where
  size : W.heap.size ≤ W'.heap.size
  same : ∀ (b : Nat) (C : Array Value) (T : TypeId) (f : Nat × Nat), ok b T → W.heap[b]? = some (.cells C T f) → W'.heap[b]? = some (.cells C T f)
theorem KeepX.refl (ok : Nat → TypeId → Prop) (W : World) : KeepX ok W W := ⟨Nat.le_refl _, fun _ _ _ _ _ h => h⟩
theorem KeepX.trans {ok : Nat → TypeId → Prop} {U V W : World} (h : KeepX ok U V) (k : KeepX ok V W) : KeepX ok U W := ⟨Nat.le_trans h.size k.size, fun b C T f hb hl => k.same b C T f hb (h.same b C T f hb hl)⟩
theorem KeepX.of_but {ok : Nat → TypeId → Prop} {V W : World} {L : List Nat} (h : But L V W) (hL : ∀ x ∈ L, ∀ T, (∃ C f, V.heap[x]? = some (.cells C T f)) → ¬ ok x T) : KeepX ok V W := ⟨h.size, fun b C T f hb hl => h.heap hl (fun hm => hL b hm T ⟨C, f, hl⟩ hb)⟩
theorem KeepX.put {ok : Nat → TypeId → Prop} (V : World) (l : Nat) (o o' : Obj) (h : V.heap[l]? = some o) (hc : o.isCells = false) : KeepX ok V (V.putObj l o') := ⟨by simp [World.putObj], fun b C T f _ hl => by
  refine (World.putObj_heap_other (fun e => ?_)).trans hl
  subst e
  rw [h] at hl
  cases hl
  cases hc⟩
def NoT {α : Type} (pre : List α) (chain : List PanicEntry) : Prop := False
/-- Where part j begins; how many parts there are; where in its group it begins; how many bytes it has. -/
def atP (o j : Nat) : Nat := 8 * j - o % 8
def cntP (o n : Nat) : Nat := if n = 0 then 0 else (o % 8 + n + 7) / 8
def frP (o j : Nat) : Nat := (o + atP o j) % 8
def mnP (o n j : Nat) : Nat := min (8 - frP o j) (n - atP o j)
theorem cnt_at {o n j : Nat} : j < cntP o n ↔ atP o j < n := by
  unfold cntP atP
  split <;> omega
theorem at_next {o n j : Nat} (h : j < cntP o n) : atP o j + mnP o n j = min n (atP o (j + 1)) := by
  have h1 := cnt_at.1 h
  unfold mnP frP atP at *
  omega
def encP (P o n j : Nat) : Array Value := #[.agg #[.pointer (some ⟨P, (o + atP o j) / 8 * 13, none⟩), .int .i64 (frP o j : Int), .int .i64 (mnP o n j : Int), .int .i64 (atP o j : Int)]]
def AnyP (m : Nat) (x : Nat) (w : World) : Prop := x < m
def AllP (m : Nat) (xs : List Nat) : Prop := xs = List.range m
def AfterP (ok : Nat → TypeId → Prop) (J Jx : List Nat → World → Prop) (W : World) (pre : List Nat) (bo : Bool) (W' : World) : Prop := if bo = true then J pre W' ∧ KeepX ok W W' else Jx pre W'
theorem parts_c (P o n : Nat) (w : World) : Calls Try.prog 39 #[.pointer (some ⟨P, 0, none⟩), .int .i64 (o : Int), .int .i64 (n : Int)] w fun e w' => e = .returned (.func (.func 45) #[] #[.pointer (some ⟨w.heap.size + 1 + 1, 0, none⟩), .pointer (some ⟨w.heap.size + 1, 0, none⟩), .pointer (some ⟨w.heap.size, 0, none⟩)]) ∧ w' = ((w.alloc (.cells #[.pointer (some ⟨P, 0, none⟩)] 25)).alloc (.cells #[.int .i64 (o : Int)] 2)).alloc (.cells #[.int .i64 (n : Int)] 3) := by
  have hmf : ∀ (fn : Fn) (first cap : Array Value) (w : World), (Instr.makeFunc fn first cap).run Try.prog w = .ok (.func fn first cap) w := fun _ _ _ _ => rfl
  go_enter Try.func39, Try.ntmps39
  go_wp2_with fail
  go_ret
  exact ⟨rfl, rfl⟩
set_option maxRecDepth 100000 in
set_option maxHeartbeats 4000000 in
theorem parts1_in (N : Nat) (hN : 1 ≤ N) (l P o n B1 B2 B3 : Nat) (ok : Nat → TypeId → Prop) (J Jx : List Nat → World → Prop) (W : World) (hJ : Abides W.heap.size J) (hJx : Abides W.heap.size Jx)
    (hY : ∀ pre x W1, J pre W1 → AnyP (cntP o n) x W1 → pre.length < cntP o n → YieldAt Fence.wide (N - 1) Try.prog l (encP P o n x) W1 fun e W' =>
      (e = .returned (.bool true) ∧ J (pre ++ [x]) W' ∧ KeepX ok W1 W') ∨ (e = .returned (.bool false) ∧ Jx (pre ++ [x]) W'))
    (h1 : W.heap[B1]? = some (.cells #[.int .i64 (n : Int)] 3)) (h2 : W.heap[B2]? = some (.cells #[.int .i64 (o : Int)] 2)) (h3 : W.heap[B3]? = some (.cells #[.pointer (some ⟨P, 0, none⟩)] 25)) (hon : o + n ≤ 512) (ok1 : ok B1 3) (ok2 : ok B2 2) (ok3 : ok B3 25) (hok : ∀ b, W.heap.size ≤ b → ok b 84) (h0 : J [] W) :
    CallsIn Fence.wide N Try.prog 45 #[.func (.yield l) #[] #[], .pointer (some ⟨B1, 0, none⟩), .pointer (some ⟨B2, 0, none⟩), .pointer (some ⟨B3, 0, none⟩)] W (SeqPost (AllP (cntP o n)) (fun _ => True) NoT J Jx) := by
  have C1 := Lib.hid (fun wr (h : KeepX ok W wr) => cl_of (h.same B1 _ _ _ ok1 h1) 0)
  have C2 := Lib.hid (fun wr (h : KeepX ok W wr) => cl_of (h.same B2 _ _ _ ok2 h2) 0)
  have C3 := Lib.hid (fun wr (h : KeepX ok W wr) => cl_of (h.same B3 _ _ _ ok3 h3) 0)
  have HY := Lib.hid hY
  have HJ := Lib.hid hJ
  have HOK := Lib.hid hok
  clear h1 h2 h3 hY ok1 ok2 ok3 hJ hJx hok
  refine callsIn_of_wp Try.func45 rfl trivial ?_ rfl
  simp only [Try.ntmps45, List.size_toArray, List.length_cons, List.length_nil, Nat.reduceAdd, Nat.reduceSub, Array.replicate_succ, Array.replicate_zero, List.push_toArray, List.append_toArray, List.nil_append, List.cons_append]
  gi_wp2
  gi_loopw [5] (fun i wr => ∃ (j : Nat), j ≤ cntP o n ∧ i = .int .i64 ((min n (atP o j) : Nat) : Int) ∧ J (List.range j) wr ∧ KeepX ok W wr) (fun i _ => n - (intOf i).toNat)
  case atStart => exact ⟨0, Nat.zero_le _, by simp [atP], h0, KeepX.refl _ _⟩
  case round =>
    obtain ⟨j, hj, rfl, hJ, hb⟩ := hrel
    have HJP := Lib.hid hJ
    have HB := Lib.hid hb
    have c1 : wr.cell? ⟨B1, 0, none⟩ = some (.int .i64 (n : Int)) := C1.out wr hb
    have c2 : wr.cell? ⟨B2, 0, none⟩ = some (.int .i64 (o : Int)) := C2.out wr hb
    have c3 : wr.cell? ⟨B3, 0, none⟩ = some (.pointer (some ⟨P, 0, none⟩)) := C3.out wr hb
    clear hJ hb h0
    by_cases hlt : j < cntP o n
    · have hat := cnt_at.1 hlt
      obtain ⟨t, ht⟩ : ∃ t, t = atP o j := ⟨_, rfl⟩
      obtain ⟨fr, hfr⟩ : ∃ x, x = frP o j := ⟨_, rfl⟩
      obtain ⟨mn, hmn⟩ : ∃ x, x = mnP o n j := ⟨_, rfl⟩
      obtain ⟨pl, hpl⟩ : ∃ x, x = o + t := ⟨_, rfl⟩
      have hnx := at_next hlt
      have hfr2 : fr = pl % 8 := by rw [hfr, hpl, ht]; rfl
      have hmn2 : mn = min (8 - fr) (n - t) := by rw [hmn, hfr, ht]; rfl
      have hen : encP P o n j = #[.agg #[.pointer (some ⟨P, pl / 8 * 13, none⟩), .int .i64 (fr : Int), .int .i64 (mn : Int), .int .i64 (t : Int)]] := by rw [hpl, hfr, hmn, ht]; rfl
      have HEN := Lib.hid hen
      rw [← ht, ← hmn] at hnx
      rw [← ht] at hat
      rw [← ht, Nat.min_eq_right (Nat.le_of_lt hat)]
      have HNX := Lib.hid hnx
      have ht0 : (0 : Int) ≤ t := by omega
      have htn : (t : Int) < n := by omega
      have ho0 : (0 : Int) ≤ o := by omega
      have hot : (o : Int) + t < 512 := by omega
      have hplc : (o : Int) + t = pl := by omega
      have HMN : Hid ((if (n : Int) - t < 8 - (fr : Int) then (n : Int) - t else 8 - (fr : Int)) = mn) := Lib.hid (by split <;> omega)
      have HFR : Hid ((pl : Int).tmod 8 = fr) := Lib.hid (by rw [Int.tmod_eq_emod_of_nonneg (by omega)]; omega)
      have hpl5 : pl < 512 := by omega
      have hfr7 : fr ≤ 7 := by omega
      have hn5 : n ≤ 512 := by omega
      have hmp : 0 < mn := by omega
      have hmt : t + mn ≤ n := by omega
      clear hen hnx hfr hmn hmn2 hfr2 ht hpl
      gi_wp2
      refine wpIn_wide.2 (rp3 _ hpl5 hfr7 hn5 hat HFR HMN (Lib.hid c1) (Lib.hid c3) ?_)
      intro z14 z15 z16 z17 z18 z19 z20 z21 z22 z23 z24 z25 z26 z27 z28 z29 g w6 hb6 hgz hg6
      have hk6 : KeepX ok W w6 := HB.out.trans (KeepX.of_but hb6 (by simp))
      have HK6 := Lib.hid hk6
      have d0 := cl_of hg6 0
      have d1 := cl_of hg6 1
      have d2 := cl_of hg6 2
      have d3 := cl_of hg6 3
      simp only [List.getElem?_toArray, List.getElem?_cons_zero, List.getElem?_cons_succ] at d0 d1 d2 d3
      have HGO : Hid (ok g 84) := Lib.hid (HOK.out g (Nat.le_trans HB.out.size hgz))
      have HG6 := Lib.hid hg6
      have hyy : YieldAt Fence.wide (N - 1) Try.prog l (encP P o n j) w6 fun e W' => ∃ bo, e = .returned (.bool bo) ∧ AfterP ok J Jx W (List.range j ++ [j]) bo W' ∧ (bo = true → W'.heap[g]? = some (.cells #[.pointer (some ⟨P, pl / 8 * 13, none⟩), .int .i64 (fr : Int), .int .i64 (mn : Int), .int .i64 (t : Int)] 84)) := by
        refine YieldAt.mono (HY.out (List.range j) j w6 (HJ.out.new _ _ _ HJP.out hb6) hlt (by simpa using hlt)) ?_
        rintro e W' (⟨he, h⟩ | ⟨he, h⟩)
        · exact ⟨true, he, by unfold AfterP; rw [if_pos rfl]; exact ⟨h.1, HK6.out.trans h.2⟩, fun _ => h.2.same g _ _ _ (HGO.out) HG6.out⟩
        · exact ⟨false, he, by unfold AfterP; rw [if_neg (by decide)]; exact h, fun h => by cases h⟩
      rw [HEN.out] at hyy
      obtain ⟨fn, tmps, assign, body, hy, hR⟩ := hyy
      have HRR := Lib.hid hR
      clear hR hk6 hb6 hg6 hgz c1 c2 c3
      gi_wp2
      refine HRR.out.mono ?_
      rintro e w8 ⟨bo, rfl, hbo, hg8⟩
      have HBO := Lib.hid hbo
      clear hbo d0 d1 d2 d3
      cases bo with
      | true =>
        have HJ8 : Hid (J (List.range (j + 1)) w8 ∧ KeepX ok W w8) := Lib.hid (by have h := HBO.out; unfold AfterP at h; rw [if_pos rfl] at h; rw [List.range_succ]; exact h)
        have d2 := cl_of (hg8 rfl) 2
        simp only [List.getElem?_toArray, List.getElem?_cons_zero, List.getElem?_cons_succ] at d2
        clear HBO HRR hy hg8
        gi_wp2
        go_roundw
        case rel => exact ⟨j + 1, by omega, by rw [← HNX.out]; go_num, HJ8.out.1, HJ8.out.2⟩
        case measure => simp [intOf]; omega
      | false =>
        have HJ8 : Hid (Jx (List.range j ++ [j]) w8) := Lib.hid (by have h := HBO.out; unfold AfterP at h; rwa [if_neg (by decide)] at h)
        clear HBO HRR hy hg8
        gi_wp2
        refine bodyPost_ret (results_none rfl _ _ _) rfl ?_
        exact .inl ⟨⟨_, rfl⟩, .inr ⟨_, trivial, HJ8.out⟩⟩
    · obtain rfl : j = cntP o n := by omega
      have hat : n ≤ atP o (cntP o n) := by have h := cnt_at (o := o) (n := n) (j := cntP o n); omega
      have HEND : Hid (SeqPost (AllP (cntP o n)) (fun _ => True) NoT J Jx (.returned (.tuple #[])) wr) := Lib.hid (.inl ⟨⟨_, rfl⟩, .inl ⟨_, rfl, HJP.out⟩⟩)
      rw [Nat.min_eq_left hat]
      clear hat c2 c3
      gi_wp2
      refine bodyPost_ret (results_none rfl _ _ _) rfl ?_
      exact HEND.out
/-- The iterator's contract. -/
theorem parts_seq (N : Nat) (hN : 1 ≤ N) (P o n B1 B2 B3 : Nat) (ok : Nat → TypeId → Prop) (w : World) (h1 : w.heap[B1]? = some (.cells #[.int .i64 (n : Int)] 3)) (h2 : w.heap[B2]? = some (.cells #[.int .i64 (o : Int)] 2)) (h3 : w.heap[B3]? = some (.cells #[.pointer (some ⟨P, 0, none⟩)] 25)) (hon : o + n ≤ 512) (ok1 : ok B1 3) (ok2 : ok B2 2) (ok3 : ok B3 25) (hok : ∀ b, w.heap.size ≤ b → ok b 84) :
    SeqB Fence.wide N Try.prog 45 #[.pointer (some ⟨B1, 0, none⟩), .pointer (some ⟨B2, 0, none⟩), .pointer (some ⟨B3, 0, none⟩)] (encP P o n) (AnyP (cntP o n)) (KeepX ok) (AllP (cntP o n)) (fun _ => True) NoT (cntP o n) w := fun l J Jx W hW hJ hJx hY h0 =>
  parts1_in N hN l P o n B1 B2 B3 ok J Jx W hJ hJx hY (hW.heap h1 (by simp)) (hW.heap h2 (by simp)) (hW.heap h3 (by simp)) hon ok1 ok2 ok3 (fun b hb => hok b (Nat.le_trans hW.size hb)) h0
end Go.Proofs.Ytmaeiifhmngllaa.M
