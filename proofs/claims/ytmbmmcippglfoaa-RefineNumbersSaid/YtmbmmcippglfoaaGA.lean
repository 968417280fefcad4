/-
  Merged: Alloc, Shelf, U64, TnMeet.
-/
import Derived.Test.YtmbmmcippglfoaaHeap
import Derived.Shelf.Small.Bits
import Derived.Shelf.Strconv.Itoa0
import Derived.Test.YtmbmmcippglfoaaProg
import Derived.Laws.Bits64b
import Derived.Laws.BitsLemmas
import Derived.BigQuiet
namespace Go.Proofs.Ytmbmmcippglfoaa.M
open Go.RowKit
theorem al_at (w : World) (o : Obj) : (w.alloc o).heap[w.heap.size]? = some o := Array.getElem?_push_size
theorem al_eq (w : World) (o : Obj) (q : Nat) (h : w.heap.size = q) : (w.alloc o).heap[q]? = some o := by
  subst h; exact al_at w o
theorem al_keep {w : World} {k : Nat} {o : Obj} (h : w.heap[k]? = some o) (o' : Obj) : (w.alloc o').heap[k]? = some o := by
  rw [Below.heap_alloc w o' k (lt_of h)]; exact h
theorem cl_of {w : World} {k : Nat} {cs : Array Value} {t : TypeId} (h : w.heap[k]? = some (.cells cs t)) (j : Nat) : w.cell? ⟨k, j, none⟩ = cs[j]? := by
  unfold World.cell?; rw [h]; rfl
end Go.Proofs.Ytmbmmcippglfoaa.M
namespace Go.Proofs.Ytmbmmcippglfoaa.M
open Go.Shelf
def lays134_ren : Go.Shelf.Ren := ⟨fun | 134 => 120 | 129 => 121 | n => n, fun | 53 => 22 | 3 => 3 | 4 => 4 | 46 => 37 | 5 => 5 | 9 => 9 | n => n, fun | n => n⟩
theorem lays134 : Go.Proofs.Lays.n134 Try.prog lays134_ren := {
  mixed := by kernel_rfl
  f129 := Try.func121.trans (congrArg some (by kernel_rfl))
  f134 := Try.func120.trans (congrArg some (by kernel_rfl))
  t3 := Try.underlying3
  a3 := Try.isAgg3
  z3 := Try.sizeOf3
  v3 := Try.zeroValue3
  t4 := Try.underlying4
  a4 := Try.isAgg4
  z4 := Try.sizeOf4
  v4 := Try.zeroValue4
  t5 := Try.underlying5
  a5 := Try.isAgg5
  z5 := Try.sizeOf5
  v5 := Try.zeroValue5
  t9 := Try.underlying9
  a9 := Try.isAgg9
  z9 := Try.sizeOf9
  v9 := Try.zeroValue9
  t46 := Try.underlying37
  a46 := Try.isAgg37
  z46 := Try.sizeOf37
  v46 := Try.zeroValue37
  t53 := Try.underlying22
  a53 := Try.isAgg22
  z53 := Try.sizeOf22
  v53 := Try.zeroValue22 }
theorem bits_LeadingZeros64 (x : Int) (w : World) (h0 : 0 ≤ x) (h1 : x ≤ 18446744073709551615) :
    Calls Try.prog 120 #[.int .u64 x] w fun e w' => e = .returned (.int .i64 (64 - (Lib.bitLen x.toNat : Int))) ∧ w' = w := Any.bits_LeadingZeros64 lays134 x w h0 h1
def lays129_ren : Go.Shelf.Ren := ⟨fun | 129 => 121 | n => n, fun | 53 => 22 | 3 => 3 | 4 => 4 | 46 => 37 | 5 => 5 | 9 => 9 | n => n, fun | n => n⟩
theorem lays129 : Go.Proofs.Lays.n129 Try.prog lays129_ren := {
  mixed := by kernel_rfl
  f129 := Try.func121.trans (congrArg some (by kernel_rfl))
  t3 := Try.underlying3
  a3 := Try.isAgg3
  z3 := Try.sizeOf3
  v3 := Try.zeroValue3
  t4 := Try.underlying4
  a4 := Try.isAgg4
  z4 := Try.sizeOf4
  v4 := Try.zeroValue4
  t5 := Try.underlying5
  a5 := Try.isAgg5
  z5 := Try.sizeOf5
  v5 := Try.zeroValue5
  t9 := Try.underlying9
  a9 := Try.isAgg9
  z9 := Try.sizeOf9
  v9 := Try.zeroValue9
  t46 := Try.underlying37
  a46 := Try.isAgg37
  z46 := Try.sizeOf37
  v46 := Try.zeroValue37
  t53 := Try.underlying22
  a53 := Try.isAgg22
  z53 := Try.sizeOf22
  v53 := Try.zeroValue22 }
theorem bits_Len64 (x : Int) (w : World) (h0 : 0 ≤ x) (h1 : x ≤ 18446744073709551615) :
    Calls Try.prog 121 #[.int .u64 x] w fun e w' => e = .returned (.int .i64 (Lib.bitLen x.toNat)) ∧ w' = w := Any.bits_Len64 lays129 x w h0 h1
end Go.Proofs.Ytmbmmcippglfoaa.M
namespace Go.Proofs.Ytmbmmcippglfoaa.M
open Go.RowKit
set_option linter.unusedVariables false
set_option linter.unusedSectionVars false
set_option linter.unusedSimpArgs false
def uand (a b : Nat) : Nat := (a &&& b) % 18446744073709551616
def uor (a b : Nat) : Nat := (a ||| b) % 18446744073709551616
def uxor (a b : Nat) : Nat := (a ^^^ b) % 18446744073709551616
def undn (a b : Nat) : Nat := (BitVec.ofNat 64 a &&& ~~~(BitVec.ofNat 64 b)).toNat
theorem lt64 (n : Nat) : n % 18446744073709551616 < 18446744073709551616 := Nat.mod_lt _ (by decide)
theorem wrapU (n : Nat) (h : n < 18446744073709551616) : IntKind.u64.wrap (n : Int) = (n : Int) := by rw [IntKind.wrap_u64]; omega
theorem ofInt_nat (a : Nat) : BitVec.ofInt 64 (a : Int) = BitVec.ofNat 64 a := BitVec.ofInt_natCast 64 a
theorem bits_and (a b : Nat) : bits .and .u64 (a : Int) (b : Int) = ((uand a b : Nat) : Int) := by
  show IntKind.u64.wrap ((BitVec.ofInt 64 (a : Int) &&& BitVec.ofInt 64 (b : Int)).toNat : Int) = _
  rw [ofInt_nat, ofInt_nat, wrapU _ (BitVec.isLt _)]
  congr 1
  unfold uand
  rw [← BitVec.ofNat_and, BitVec.toNat_ofNat]
theorem bits_or (a b : Nat) : bits .or .u64 (a : Int) (b : Int) = ((uor a b : Nat) : Int) := by
  show IntKind.u64.wrap ((BitVec.ofInt 64 (a : Int) ||| BitVec.ofInt 64 (b : Int)).toNat : Int) = _
  rw [ofInt_nat, ofInt_nat, wrapU _ (BitVec.isLt _)]
  congr 1
  unfold uor
  rw [← BitVec.ofNat_or, BitVec.toNat_ofNat]
theorem bits_xor (a b : Nat) : bits .xor .u64 (a : Int) (b : Int) = ((uxor a b : Nat) : Int) := by
  show IntKind.u64.wrap ((BitVec.ofInt 64 (a : Int) ^^^ BitVec.ofInt 64 (b : Int)).toNat : Int) = _
  rw [ofInt_nat, ofInt_nat, wrapU _ (BitVec.isLt _)]
  congr 1
  unfold uxor
  rw [← BitVec.ofNat_xor, BitVec.toNat_ofNat]
theorem bits_andNot (a b : Nat) : bits .andNot .u64 (a : Int) (b : Int) = ((undn a b : Nat) : Int) := by
  show IntKind.u64.wrap ((BitVec.ofInt 64 (a : Int) &&& ~~~(BitVec.ofInt 64 (b : Int))).toNat : Int) = _
  rw [ofInt_nat, ofInt_nat, wrapU _ (BitVec.isLt _)]
  rfl
theorem bits_andNot0 (a : Nat) : bits .andNot .u64 (a : Int) 0 = ((undn a 0 : Nat) : Int) := bits_andNot a 0
attribute [go_sem] bits_and bits_or bits_xor bits_andNot bits_andNot0
structure Tn where
  v : Nat
  m : Nat
structure Sp where
  lo : Nat
  hi : Nat
  sl : Int
  sh : Int
structure Sc where
  t : Tn
  s : Sp
def Tn.val (t : Tn) : Value := .agg #[.int .u64 t.v, .int .u64 t.m]
def Sp.val (s : Sp) : Value := .agg #[.int .u64 s.lo, .int .u64 s.hi, .int .i64 s.sl, .int .i64 s.sh]
def Sc.val (s : Sc) : Value := .agg #[.int .u64 s.t.v, .int .u64 s.t.m, .int .u64 s.s.lo, .int .u64 s.s.hi, .int .i64 s.s.sl, .int .i64 s.s.sh]
def tnR (t : Tn) : Bool := ((uand t.v t.m : Nat) : Int) == 0
def spR (s : Sp) : Bool := decide (s.lo ≤ s.hi) && decide (s.sl ≤ s.sh)
theorem tnRight (v m : Nat) (w : World) : Calls Try.prog 58 #[.agg #[.int .u64 v, .int .u64 m]] w fun e w' => e = .returned (.bool (tnR ⟨v, m⟩)) ∧ But [] w w' := by
  go_enter Try.func58, Try.ntmps58
  go_wp2
  go_ret
  exact ⟨rfl, ((But.refl _ _).alloc _).alloc _⟩
set_option maxHeartbeats 1000000 in
theorem spRight (lo hi : Nat) (sl sh : Int) (w : World) : Calls Try.prog 63 #[.agg #[.int .u64 lo, .int .u64 hi, .int .i64 sl, .int .i64 sh]] w fun e w' => e = .returned (.bool (spR ⟨lo, hi, sl, sh⟩)) ∧ But [] w w' := by
  go_enter Try.func63, Try.ntmps63
  go_wp2
  · rename_i h
    go_ret
    exact ⟨by simp [spR, h], by repeat (first | exact But.refl _ _ | refine But.alloc ?_ _)⟩
  · rename_i h
    go_ret
    exact ⟨by simp [spR, h], by repeat (first | exact But.refl _ _ | refine But.alloc ?_ _)⟩
theorem uxor_lt (a b : Nat) : uxor a b < 18446744073709551616 := lt64 _
def maskN (k : Nat) : Nat := 2 ^ k - 1
def lenX (lo hi : Nat) : Nat := Lib.bitLen (uxor lo hi)
def rangeT (lo hi : Nat) : Tn := ⟨undn lo (maskN (lenX lo hi)), maskN (lenX lo hi)⟩
theorem mask_fin : ∀ k : Fin 65, (18446744073709551615 : Nat) / 2 ^ (64 - k.val) = 2 ^ k.val - 1 := by decide +kernel
theorem lenX_le (lo hi : Nat) : lenX lo hi ≤ 64 := Lib.bitLen_le _ 64 (Nat.le_refl _) (uxor_lt lo hi)
theorem shift_mask {k : Nat} (hk : k ≤ 64) : Op.shift .shr .u64 18446744073709551615 .i64 (64 - (k : Int)) = pure (.int .u64 ((maskN k : Nat) : Int)) := by
  have h0 : (0 : Int) ≤ 64 - (k : Int) := by omega
  have h64 : (64 - (k : Int)) ≤ 64 := by omega
  rw [shift_shr_u64 _ _ _ h0 h64]
  have h1 := mask_fin ⟨k, by omega⟩
  have h2 : (64 - (k : Int)).toNat = 64 - k := by omega
  rw [h2]
  congr 2
  have h3 : ((18446744073709551615 : Nat) : Int) / ((2 ^ (64 - k) : Nat) : Int) = ((2 ^ k - 1 : Nat) : Int) := by
    rw [← Int.natCast_ediv]
    exact congrArg Int.ofNat h1
  unfold maskN
  rw [← h3]
  simp
theorem uxor_self (a : Nat) : uxor a a = 0 := by unfold uxor; simp
theorem lenX_self (a : Nat) : lenX a a = 0 := by unfold lenX; rw [uxor_self]; rfl
theorem undn_zero_self (lo : Nat) : rangeT lo lo = ⟨undn lo 0, 0⟩ := by unfold rangeT; rw [lenX_self]; rfl
set_option maxHeartbeats 1000000 in
theorem tnRange (lo hi : Nat) (w : World) (h : lo ≤ hi) : Calls Try.prog 115 #[.int .u64 lo, .int .u64 hi] w fun e w' => e = .returned (rangeT lo hi).val ∧ But [] w w' := by
  have hx := uxor_lt lo hi
  have HLZ := Lib.hid (fun w => bits_LeadingZeros64 ((uxor lo hi : Nat) : Int) w (by omega) (by omega))
  obtain ⟨k, hk⟩ : ∃ k, k = lenX lo hi := ⟨_, rfl⟩
  have HLK : Hid (∀ w, Calls Try.prog 120 #[.int .u64 ((uxor lo hi : Nat) : Int)] w fun e w' => e = .returned (.int .i64 (64 - (k : Int))) ∧ w' = w) := Lib.hid (fun w => by
    have := HLZ.out w
    rw [Int.toNat_natCast] at this
    rw [hk]
    exact this)
  have hsh := shift_mask (k := k) (by rw [hk]; exact lenX_le _ _)
  have hnl : ¬ hi < lo := by omega
  have HK := Lib.hid hk
  clear hk HLZ hx h
  by_cases he : lo = hi
  · subst he
    have HR := Lib.hid (undn_zero_self lo)
    go_enter Try.func115, Try.ntmps115
    go_wp2_with (go_at_call 120; refine (HLK.out _).mono ?_; rintro e w' ⟨rfl, rfl⟩)
    exact bodyPost_ret (v := .agg #[.int .u64 ((undn lo 0 : Nat) : Int), .int .u64 0]) (by simp [results, Try.results115, go_sem]) rfl ⟨by rw [HR.out]; rfl, (But.refl _ _).alloc _⟩
  · have he' : ((lo : Int) == (hi : Int)) = false := by rw [beq_eq_false_iff_ne]; omega
    go_enter Try.func115, Try.ntmps115
    go_wp2_with (go_at_call 120; refine (HLK.out _).mono ?_; rintro e w' ⟨rfl, rfl⟩)
    exact bodyPost_ret (v := .agg #[.int .u64 ((undn lo (maskN k) : Nat) : Int), .int .u64 ((maskN k : Nat) : Int)]) (by simp [results, Try.results115, go_sem]) rfl ⟨by rw [HK.out]; rfl, (But.refl _ _).alloc _⟩
end Go.Proofs.Ytmbmmcippglfoaa.M
namespace Go.Proofs.Ytmbmmcippglfoaa.M
open Go.RowKit
set_option linter.unusedVariables false
set_option linter.unusedSectionVars false
set_option linter.unusedSimpArgs false
theorem but_drewN {L : List Nat} {a b : World} (h : But L a b) (n : Nat) : But L a (b.drewN n) := ⟨h.os, h.tape, h.output, h.size, h.block⟩
def meetB (a b : Tn) : Bool := tnR a && tnR b && (((undn (undn (uxor a.v b.v) a.m) b.m : Nat) : Int) == 0)
def meetT (a b : Tn) : Tn := if meetB a b then ⟨uor a.v b.v, uand a.m b.m⟩ else ⟨0, 0⟩
set_option maxHeartbeats 2000000 in
theorem tnMeet (v m v2 m2 : Nat) (w : World) : Calls Try.prog 83 #[.agg #[.int .u64 v, .int .u64 m], .agg #[.int .u64 v2, .int .u64 m2]] w fun e w' => e = .returned (.tuple #[(meetT ⟨v, m⟩ ⟨v2, m2⟩).val, .bool (meetB ⟨v, m⟩ ⟨v2, m2⟩)]) ∧ But [] w w' := by
  cases hA : (((uand v m : Nat) : Int) == 0) with
  | false =>
    have HE : Hid (meetB ⟨v, m⟩ ⟨v2, m2⟩ = false) := Lib.hid (by simp [meetB, tnR, hA])
    go_enter Try.func83, Try.ntmps83
    go_wp2
    exact bodyPost_ret (v := .tuple #[.agg #[.int .u64 0, .int .u64 0], .bool false]) (by simp [results, Try.results83, go_sem]) rfl ⟨by unfold meetT; rw [HE.out]; rfl, by repeat (first | exact But.refl _ _ | refine But.alloc ?_ _)⟩
  | true =>
    cases hB : (((uand v2 m2 : Nat) : Int) == 0) with
    | false =>
      have HE : Hid (meetB ⟨v, m⟩ ⟨v2, m2⟩ = false) := Lib.hid (by simp [meetB, tnR, hB])
      go_enter Try.func83, Try.ntmps83
      go_wp2
      exact bodyPost_ret (v := .tuple #[.agg #[.int .u64 0, .int .u64 0], .bool false]) (by simp [results, Try.results83, go_sem]) rfl ⟨by unfold meetT; rw [HE.out]; rfl, by repeat (first | exact But.refl _ _ | refine But.alloc ?_ _)⟩
    | true =>
      cases hC : (((undn (undn (uxor v v2) m) m2 : Nat) : Int) == 0) with
      | false =>
        have hC' : (((undn (undn (uxor v v2) m) m2 : Nat) : Int) != 0) = true := by simp [bne, hC]
        have HE : Hid (meetB ⟨v, m⟩ ⟨v2, m2⟩ = false) := Lib.hid (by simp [meetB, tnR, hC])
        go_enter Try.func83, Try.ntmps83
        go_wp2
        exact bodyPost_ret (v := .tuple #[.agg #[.int .u64 0, .int .u64 0], .bool false]) (by simp [results, Try.results83, go_sem]) rfl ⟨by unfold meetT; rw [HE.out]; rfl, by repeat (first | exact But.refl _ _ | refine But.alloc ?_ _)⟩
      | true =>
        have hC' : (((undn (undn (uxor v v2) m) m2 : Nat) : Int) != 0) = false := by simp [bne, hC]
        have HE : Hid (meetB ⟨v, m⟩ ⟨v2, m2⟩ = true) := Lib.hid (by simp [meetB, tnR, hA, hB, hC])
        go_enter Try.func83, Try.ntmps83
        go_wp2
        exact bodyPost_ret (v := .tuple #[.agg #[.int .u64 ((uor v v2 : Nat) : Int), .int .u64 ((uand m m2 : Nat) : Int)], .bool true]) (by simp [results, Try.results83, go_sem]) rfl ⟨by unfold meetT; rw [HE.out]; rfl, by repeat (first | exact But.refl _ _ | refine But.alloc ?_ _)⟩
/-- A work's block. -/
def scCells (s : Sc) : Array Value := #[.int .u64 s.t.v, .int .u64 s.t.m, .int .u64 s.s.lo, .int .u64 s.s.hi, .int .i64 s.s.sl, .int .i64 s.s.sh]
def WkAt (w : World) (B : Nat) (s : Sc) : Prop := w.heap[B]? = some (.cells (scCells s) 94)
set_option maxHeartbeats 2000000 in
theorem narrowU (B v m lo hi : Nat) (sl sh : Int) (f t : Nat) (w : World) (hB : WkAt w B ⟨⟨v, m⟩, ⟨lo, hi, sl, sh⟩⟩) : Calls Try.prog 113 #[.pointer (some ⟨B, 2, none⟩), .pointer (some ⟨B, 3, none⟩), .int .u64 f, .int .u64 t] w fun e w' => e = .returned (.bool (decide (max lo f ≤ min hi t))) ∧ WkAt w' B ⟨⟨v, m⟩, ⟨max lo f, min hi t, sl, sh⟩⟩ ∧ But [B] w w' := by
  have c2 : w.cell? ⟨B, 2, none⟩ = some (.int .u64 lo) := cl_of hB 2
  have c3 : w.cell? ⟨B, 3, none⟩ = some (.int .u64 hi) := cl_of hB 3
  have f2 : w.frozen? ⟨B, 2, none⟩ = false := by unfold World.frozen?; rw [hB]; simp
  have f3 : w.frozen? ⟨B, 3, none⟩ = false := by unfold World.frozen?; rw [hB]; simp
  have HB := Lib.hid hB
  obtain ⟨a, ha⟩ : ∃ a, a = max lo f := ⟨_, rfl⟩
  obtain ⟨b, hb⟩ : ∃ b, b = min hi t := ⟨_, rfl⟩
  rw [← ha, ← hb]
  have hm1 : max (lo : Int) (f : Int) = (a : Int) := by rw [ha]; first | done | omega
  have hm2 : min (hi : Int) (t : Int) = (b : Int) := by rw [hb]; first | done | omega
  clear hB ha hb
  go_enter Try.func113, Try.ntmps113
  go_wp2_with fail
  go_region
  go_wp2_with fail
  go_quiet (fail)
  go_wp2_with fail
  go_ret
  refine ⟨rfl, ?_, ?_⟩
  · have h := HB.out
    unfold WkAt scCells at h ⊢
    show ((w.setCell ⟨B, 2, none⟩ (.int .u64 (a : Int))).setCell ⟨B, 3, none⟩ (.int .u64 (b : Int))).heap[B]? = _
    simp [World.setCell, Array.getElem?_modify, h]
  · repeat (first | exact But.refl _ _ | refine but_drewN ?_ _ | refine But.drew ?_ | refine But.setCell ?_ (.inl (by simp)) _)
set_option maxHeartbeats 2000000 in
theorem narrowS (B v m lo hi : Nat) (sl sh : Int) (f t : Int) (w : World) (hB : WkAt w B ⟨⟨v, m⟩, ⟨lo, hi, sl, sh⟩⟩) : Calls Try.prog 117 #[.pointer (some ⟨B, 4, none⟩), .pointer (some ⟨B, 5, none⟩), .int .i64 f, .int .i64 t] w fun e w' => e = .returned (.bool (decide (max sl f ≤ min sh t))) ∧ WkAt w' B ⟨⟨v, m⟩, ⟨lo, hi, max sl f, min sh t⟩⟩ ∧ But [B] w w' := by
  have c2 : w.cell? ⟨B, 4, none⟩ = some (.int .i64 sl) := cl_of hB 4
  have c3 : w.cell? ⟨B, 5, none⟩ = some (.int .i64 sh) := cl_of hB 5
  have f2 : w.frozen? ⟨B, 4, none⟩ = false := by unfold World.frozen?; rw [hB]; simp
  have f3 : w.frozen? ⟨B, 5, none⟩ = false := by unfold World.frozen?; rw [hB]; simp
  have HB := Lib.hid hB
  obtain ⟨a, ha⟩ : ∃ a, a = max sl f := ⟨_, rfl⟩
  obtain ⟨b, hb⟩ : ∃ b, b = min sh t := ⟨_, rfl⟩
  rw [← ha, ← hb]
  have hm1 : max (sl : Int) (f : Int) = (a : Int) := by rw [ha]; first | done | omega
  have hm2 : min (sh : Int) (t : Int) = (b : Int) := by rw [hb]; first | done | omega
  clear hB ha hb
  go_enter Try.func117, Try.ntmps117
  go_wp2_with fail
  go_region
  go_wp2_with fail
  go_quiet (fail)
  go_wp2_with fail
  go_ret
  refine ⟨rfl, ?_, ?_⟩
  · have h := HB.out
    unfold WkAt scCells at h ⊢
    show ((w.setCell ⟨B, 4, none⟩ (.int .i64 (a : Int))).setCell ⟨B, 5, none⟩ (.int .i64 (b : Int))).heap[B]? = _
    simp [World.setCell, Array.getElem?_modify, h]
  · repeat (first | exact But.refl _ _ | refine but_drewN ?_ _ | refine But.drew ?_ | refine But.setCell ?_ (.inl (by simp)) _)
end Go.Proofs.Ytmbmmcippglfoaa.M
