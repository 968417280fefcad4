/-
  slices.Chunk of bytes, eight by eight: the iterator.
-/
import Derived.Test.YtddeckkcfcodbaaGreatBack
import Derived.RegionIn
namespace Go.Proofs.YtddeckkcfcodbaaGreat.M
open Go.RowKit Go.Shelf
set_option linter.unusedVariables false
set_option linter.unusedSectionVars false
set_option linter.unusedSimpArgs false
attribute [local go_sem] Oper.semAt_some
theorem chunk_c (a : Option Addr) (n c : Nat) (w : World) : Calls Tryz.prog 19 #[.slice a n c, .int .i64 8] w fun e w' => e = .returned (.func (.func 35) #[] #[.pointer (some ⟨w.heap.size, 0, none⟩), .pointer (some ⟨w.heap.size + 1, 0, none⟩)]) ∧ w' = (w.alloc (.cells #[.slice a n c] 22)).alloc (.cells #[.int .i64 8] 3) := by
  have hmf : ∀ (fn : Fn) (first cap : Array Value) (w : World), (Instr.makeFunc fn first cap).run Tryz.prog w = .ok (.func fn first cap) w := fun _ _ _ _ => rfl
  go_enter Tryz.func19, Tryz.ntmps19
  go_wp2_with fail
  go_ret
  exact ⟨rfl, rfl⟩
/-- What a row of bytes shows, its room too. -/
def SeesD (w : World) (a : Option Addr) (c : Nat) (bs : List Int) : Prop := bs.length ≤ c ∧ ∀ (i : Nat) (x : Int), bs[i]? = some x → ∃ b o, a = some ⟨b, o, none⟩ ∧ w.cell? ⟨b, o + i, none⟩ = some (.int .u8 x)
theorem SeesD.but {w w' : World} {a : Option Addr} {c : Nat} {bs : List Int} {L : List Nat} (h : SeesD w a c bs) (hb : But L w w') (hn : ∀ ad, a = some ad → ad.block ∉ L) : SeesD w' a c bs :=
  ⟨h.1, fun i x hx => by
    obtain ⟨b, o, rfl, hc⟩ := h.2 i x hx
    exact ⟨b, o, rfl, cell_but hb hc (hn ⟨b, o, none⟩ rfl)⟩⟩
def encC (a : Option Addr) (x : Nat) : Array Value := #[.slice (a.map fun ad => ⟨ad.block, ad.off + 8 * x, none⟩) 8 8]
def AnyC (m : Nat) (x : Nat) (w : World) : Prop := x < m
def CAll (m : Nat) (xs : List Nat) : Prop := xs = List.range m
def AfterC (ok : Nat → Prop) (J Jx : List Nat → World → Prop) (W : World) (pre : List Nat) (bo : Bool) (W' : World) : Prop := if bo = true then J pre W' ∧ KeepIn ok W W' else Jx pre W'
set_option maxRecDepth 100000 in
set_option maxHeartbeats 4000000 in
theorem chunk1_in (n : Nat) (hn : 1 ≤ n) (l P P2 m : Nat) (ok : Nat → Prop) (a : Option Addr) (c : Nat) (bs : List Int) (J Jx : List Nat → World → Prop) (W : World) (hJ : Abides W.heap.size J) (hJx : Abides W.heap.size Jx)
    (hY : ∀ pre x W1, J pre W1 → AnyC m x W1 → pre.length < m → YieldAt Fence.wide (n - 1) Tryz.prog l (encC a x) W1 fun e W' =>
      (e = .returned (.bool true) ∧ J (pre ++ [x]) W' ∧ KeepIn ok W1 W') ∨ (e = .returned (.bool false) ∧ Jx (pre ++ [x]) W'))
    (hP : W.heap[P]? = some (.cells #[.slice a bs.length c] 22)) (hP2 : W.heap[P2]? = some (.cells #[.int .i64 8] 3)) (hs : SeesD W a c bs) (hl : bs.length ≤ 1000000000000) (hm : bs.length = 8 * m) (hPn : ok P) (hPn2 : ok P2) (h0 : J [] W) :
    CallsIn Fence.wide n Tryz.prog 35 #[.func (.yield l) #[] #[], .pointer (some ⟨P, 0, none⟩), .pointer (some ⟨P2, 0, none⟩)] W (SeqPost (CAll m) (fun _ => True) NoT J Jx) := by
  have c0 : W.cell? ⟨P, 0, none⟩ = some (.slice a bs.length c) := cl_of hP 0
  have c1 : W.cell? ⟨P2, 0, none⟩ = some (.int .i64 8) := cl_of hP2 0
  have C0 := Lib.hid (fun wr (h : KeepIn ok W wr) => h.cell (p := ⟨P, 0, none⟩) hPn c0)
  have C1 := Lib.hid (fun wr (h : KeepIn ok W wr) => h.cell (p := ⟨P2, 0, none⟩) hPn2 c1)
  have HA : Hid (0 < m → ∃ b o, a = some ⟨b, o, none⟩) := Lib.hid fun h => by
    obtain ⟨x, hx⟩ : ∃ x, bs[0]? = some x := ⟨_, List.getElem?_eq_getElem (by omega)⟩
    obtain ⟨b, o, e, _⟩ := hs.2 0 x hx
    exact ⟨b, o, e⟩
  have hcc := hs.1
  rw [hm] at c0 C0 hcc hl
  have HY := Lib.hid hY
  have HJ := Lib.hid hJ
  clear hP hP2 hs hY hPn hPn2 hm hJ hJx
  refine callsIn_of_wp Tryz.func35 rfl trivial ?_ rfl
  simp only [Tryz.ntmps35, List.size_toArray, List.length_cons, List.length_nil, Nat.reduceAdd, Nat.reduceSub, Array.replicate_succ, Array.replicate_zero, List.push_toArray, List.append_toArray, List.nil_append, List.cons_append]
  gi_wp2
  clear c0 c1
  gi_loopw [4] (fun i wr => ∃ (j : Nat), j ≤ m ∧ i = .int .i64 (8 * j : Nat) ∧ J (List.range j) wr ∧ KeepIn ok W wr) (fun i _ => 8 * m - (intOf i).toNat)
  case atStart => exact ⟨0, Nat.zero_le _, rfl, h0, KeepIn.refl _ _⟩
  case round =>
    obtain ⟨j, hj, rfl, hJ, hb⟩ := hrel
    have HJP := Lib.hid hJ
    have HB := Lib.hid hb
    have c0 := C0.out wr hb
    have c1 := C1.out wr hb
    clear hJ hb h0
    by_cases hlt : j < m
    · obtain ⟨b, o, rfl⟩ := HA.out (by omega)
      obtain ⟨q, hq⟩ : ∃ q, q = 8 * j := ⟨_, rfl⟩
      obtain ⟨t, ht⟩ : ∃ t, t = 8 * m := ⟨_, rfl⟩
      have HQ := Lib.hid hq
      have HT := Lib.hid ht
      rw [← ht] at c0 hcc hl
      rw [← hq]
      have hq0 : (0 : Int) ≤ q := by omega
      have hqt : (q : Int) < t := by omega
      have hq8 : (q : Int) + 8 ≤ t := by omega
      have hct : (t : Int) ≤ c := by omega
      have hmin : ¬ ((t : Int) - q < 8) := by omega
      gi_wp2
      gi_region
      obtain ⟨w2, hw2⟩ : ∃ w2, w2 = wr.drew := ⟨_, rfl⟩
      have hbd : But [] wr w2 := by rw [hw2]; exact (But.refl [] wr).drew
      have hb2 : KeepIn ok W w2 := HB.out.trans (KeepIn.of_but hbd (by simp))
      rw [← hw2]
      have c0' := C0.out w2 hb2
      have HB2 := Lib.hid hb2
      have hyy : YieldAt Fence.wide (n - 1) Tryz.prog l (encC (some ⟨b, o, none⟩) j) w2 fun e W' => ∃ bo, e = .returned (.bool bo) ∧ AfterC ok J Jx W (List.range j ++ [j]) bo W' := by
        refine YieldAt.mono (HY.out (List.range j) j w2 (HJ.out.new _ _ _ HJP.out hbd) hlt (by simpa using hlt)) ?_
        rintro e W' (⟨he, h⟩ | ⟨he, h⟩)
        · exact ⟨true, he, by unfold AfterC; rw [if_pos rfl]; exact ⟨h.1, HB2.out.trans h.2⟩⟩
        · exact ⟨false, he, by unfold AfterC; rw [if_neg (by decide)]; exact h⟩
      obtain ⟨fn, tmps, assign, body, hy, hR⟩ := hyy
      have HRR := Lib.hid hR
      clear hR hw2 hbd hb2
      unfold encC at hy
      simp only [Option.map_some] at hy
      gi_wp2
      refine HRR.out.mono ?_
      rintro e w8 ⟨bo, rfl, hbo⟩
      have HBO := Lib.hid hbo
      clear hbo c0 c0' c1
      cases bo with
      | true =>
        have HJ8 : Hid (J (List.range (j + 1)) w8 ∧ KeepIn ok W w8) := Lib.hid (by have h := HBO.out; unfold AfterC at h; rw [if_pos rfl] at h; rw [List.range_succ]; exact h)
        have d1 := C1.out w8 HJ8.out.2
        clear HBO HRR hy
        gi_wp2
        go_roundw
        case rel => exact ⟨j + 1, by omega, by go_num, HJ8.out.1, HJ8.out.2⟩
        case measure => simp [intOf]; omega
      | false =>
        have HJ8 : Hid (Jx (List.range j ++ [j]) w8) := Lib.hid (by have h := HBO.out; unfold AfterC at h; rwa [if_neg (by decide)] at h)
        clear HBO HRR hy
        gi_wp2
        refine bodyPost_ret (results_none rfl _ _ _) rfl ?_
        exact .inl ⟨⟨_, rfl⟩, .inr ⟨_, trivial, HJ8.out⟩⟩
    · obtain rfl : j = m := by omega
      have HEND : Hid (SeqPost (CAll j) (fun _ => True) NoT J Jx (.returned (.tuple #[])) wr) := Lib.hid (.inl ⟨⟨_, rfl⟩, .inl ⟨_, rfl, HJP.out⟩⟩)
      gi_wp2
      refine bodyPost_ret (results_none rfl _ _ _) rfl ?_
      exact HEND.out
/-- The iterator's contract. -/
theorem chunk_seq (n : Nat) (hn : 1 ≤ n) (P P2 m : Nat) (ok : Nat → Prop) (a : Option Addr) (c : Nat) (bs : List Int) (w : World) (hP : w.heap[P]? = some (.cells #[.slice a bs.length c] 22)) (hP2 : w.heap[P2]? = some (.cells #[.int .i64 8] 3)) (hs : SeesD w a c bs) (hl : bs.length ≤ 1000000000000) (hm : bs.length = 8 * m) (hPn : ok P) (hPn2 : ok P2) :
    SeqB Fence.wide n Tryz.prog 35 #[.pointer (some ⟨P, 0, none⟩), .pointer (some ⟨P2, 0, none⟩)] (encC a) (AnyC m) (KeepIn ok) (CAll m) (fun _ => True) NoT m w := fun l J Jx W hW hJ hJx hY h0 =>
  chunk1_in n hn l P P2 m ok a c bs J Jx W hJ hJx hY (hW.heap hP (by simp)) (hW.heap hP2 (by simp)) (hs.but hW (by simp)) hl hm hPn hPn2 h0
end Go.Proofs.YtddeckkcfcodbaaGreat.M
