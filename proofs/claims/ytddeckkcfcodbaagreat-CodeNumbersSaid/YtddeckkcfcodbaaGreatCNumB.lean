/-
  'CodeNumbers' tells true: the walk.
-/
import Derived.Test.YtddeckkcfcodbaaGreatCNumA
import Derived.Test.YtddeckkcfcodbaaGreatPuts
import Derived.OpenShut
import Derived.Deep.DeepCutAuto
import Derived.Deep.CutBlock
namespace Go.Proofs.YtddeckkcfcodbaaGreat.M
open Go.RowKit Go.Shelf
set_option linter.unusedVariables false
set_option linter.unusedSectionVars false
set_option linter.unusedSimpArgs false
def regsA : Array Value := #[.int .u8 0, .int .u8 1, .int .u8 10, .int .u8 15, .int .u8 16, .int .u8 255]
def offsA : Array Value := #[.int .i16 (-32768), .int .i16 (-1), .int .i16 0, .int .i16 1, .int .i16 255, .int .i16 256, .int .i16 32767]
def immsA : Array Value := #[.int .i32 (-2147483648), .int .i32 (-1), .int .i32 0, .int .i32 1, .int .i32 255, .int .i32 65536, .int .i32 2147483647]
theorem regs_at : ∀ i, i < 6 → ∃ x : Int, regsA[i]? = some (.int .u8 x) ∧ 0 ≤ x ∧ x ≤ 255
  | 0, _ => ⟨_, rfl, by decide, by decide⟩
  | 1, _ => ⟨_, rfl, by decide, by decide⟩
  | 2, _ => ⟨_, rfl, by decide, by decide⟩
  | 3, _ => ⟨_, rfl, by decide, by decide⟩
  | 4, _ => ⟨_, rfl, by decide, by decide⟩
  | 5, _ => ⟨_, rfl, by decide, by decide⟩
  | n + 6, h => by omega
theorem offs_at : ∀ i, i < 7 → ∃ x : Int, offsA[i]? = some (.int .i16 x) ∧ -32768 ≤ x ∧ x ≤ 32767
  | 0, _ => ⟨_, rfl, by decide, by decide⟩
  | 1, _ => ⟨_, rfl, by decide, by decide⟩
  | 2, _ => ⟨_, rfl, by decide, by decide⟩
  | 3, _ => ⟨_, rfl, by decide, by decide⟩
  | 4, _ => ⟨_, rfl, by decide, by decide⟩
  | 5, _ => ⟨_, rfl, by decide, by decide⟩
  | 6, _ => ⟨_, rfl, by decide, by decide⟩
  | n + 7, h => by omega
theorem imms_at : ∀ i, i < 7 → ∃ x : Int, immsA[i]? = some (.int .i32 x) ∧ -2147483648 ≤ x ∧ x ≤ 2147483647
  | 0, _ => ⟨_, rfl, by decide, by decide⟩
  | 1, _ => ⟨_, rfl, by decide, by decide⟩
  | 2, _ => ⟨_, rfl, by decide, by decide⟩
  | 3, _ => ⟨_, rfl, by decide, by decide⟩
  | 4, _ => ⟨_, rfl, by decide, by decide⟩
  | 5, _ => ⟨_, rfl, by decide, by decide⟩
  | 6, _ => ⟨_, rfl, by decide, by decide⟩
  | n + 7, h => by omega
theorem came_one {W : World} {g : Nat} {x : Ins} (h : W.heap[g]? = some (.cells #[.int .u8 x.op, .int .u8 x.dst, .int .u8 x.src, .int .i16 x.off, .int .i32 x.imm] 27)) (hx : InsOk x) : CameI W (.slice (some ⟨g, 0, none⟩) 1 1) [x] :=
  ⟨seesI_cells (l := [x]) rfl (fun j u hj => by rw [cl_of h]; simpa [Ins.cells] using hj), (by intro y hy; simp at hy; subst hy; exact hx), fun a n c e ha => by cases e; cases ha⟩
theorem came_two {W : World} {g : Nat} {x y : Ins} (h : W.heap[g]? = some (.cells #[.int .u8 x.op, .int .u8 x.dst, .int .u8 x.src, .int .i16 x.off, .int .i32 x.imm, .int .u8 y.op, .int .u8 y.dst, .int .u8 y.src, .int .i16 y.off, .int .i32 y.imm] 27)) (hx : InsOk x) (hy : InsOk y) : CameI W (.slice (some ⟨g, 0, none⟩) 2 2) [x, y] :=
  ⟨seesI_cells (l := [x, y]) rfl (fun j u hj => by rw [cl_of h]; simpa [Ins.cells] using hj), (fun z hz => (List.mem_cons.1 hz).elim (fun e => e ▸ hx) (fun h => (List.mem_singleton.1 h) ▸ hy)), fun a n c e ha => by cases e; cases ha⟩
theorem came_nil (W : World) : CameI W (.slice none 0 0) [] :=
  ⟨⟨none, 0, rfl, fun i x hx => by simp at hx⟩, (by intro y hy; cases hy), fun a n c e ha => by cases e; rfl⟩
def made8 (n : Nat) : List Int := List.replicate n 0
theorem made8_len (n : Nat) : (made8 n).length = n := List.length_replicate
theorem made8_byte (n : Nat) : ByteL (made8 n) := fun x hx => by obtain ⟨_, rfl⟩ := List.mem_replicate.1 hx; exact ⟨by decide, by decide⟩
theorem sees8 {W : World} {g m n : Nat} (h : W.heap[g]? = some (.cells (madeCells #[.int .u8 0] m) 5)) (hn : n ≤ m) : Sees W (.slice (some ⟨g, 0, none⟩) n m) (u8s (made8 n)) :=
  .inr ⟨⟨g, 0, none⟩, m, by rw [u8s_len, made8_len], by rw [u8s_len, made8_len]; exact hn, fun j u hj => by
    rw [add_at, Nat.zero_add, cl_of h]
    have hjl := (List.getElem?_eq_some_iff.1 hj).1
    rw [u8s_len, made8_len] at hjl
    unfold u8s made8 at hj
    rw [List.getElem?_map, List.getElem?_replicate, if_pos hjl] at hj
    cases hj
    have : j < m := by omega
    simp [madeCells, this, Nat.mod_one]⟩
/-- Eight bytes, one of them another one. -/
def one8 (p : Nat) (c : Int) : List Int := (made8 8).set p c
theorem one8_len (p : Nat) (c : Int) : (one8 p c).length = 8 := by unfold one8; rw [List.length_set, made8_len]
theorem one8_byte {p : Nat} {c : Int} (h : 0 ≤ c ∧ c ≤ 255) : ByteL (one8 p c) := fun x hx => by
  rcases List.mem_or_eq_of_mem_set hx with h1 | rfl
  · exact made8_byte 8 x h1
  · exact h
theorem heap_set {W : World} {g p : Nat} {cs : Array Value} {t : TypeId} {f : Nat × Nat} {v : Value} (h : W.heap[g]? = some (.cells cs t f)) : (W.setCell ⟨g, p, none⟩ v).heap[g]? = some (.cells (cs.set! p v) t f) := by
  simp [World.setCell, Array.getElem?_modify, h]
theorem sees_one8 (W : World) (p : Nat) (c : Int) (hp : p < 8) : Sees ((W.alloc (.cells (madeCells #[.int .u8 0] 8) 5)).setCell ⟨W.heap.size, p, none⟩ (.int .u8 c)) (.slice (some ⟨W.heap.size, 0, none⟩) 8 8) (u8s (one8 p c)) := by
  have hb : ((W.alloc (.cells (madeCells #[.int .u8 0] 8) 5)).setCell ⟨W.heap.size, p, none⟩ (.int .u8 c)).heap[W.heap.size]? = some (.cells ((madeCells #[.int .u8 0] 8).set! p (.int .u8 c)) 5) := by
    exact heap_set (al_at W _)
  refine .inr ⟨⟨W.heap.size, 0, none⟩, 8, by rw [u8s_len, one8_len], by rw [u8s_len, one8_len]; exact Nat.le_refl _, fun j u hj => ?_⟩
  rw [add_at, Nat.zero_add, cl_of hb]
  have hjl := (List.getElem?_eq_some_iff.1 hj).1
  rw [u8s_len, one8_len] at hjl
  unfold u8s one8 made8 at hj
  rw [List.getElem?_map] at hj
  by_cases e : p = j
  · subst e
    rw [List.getElem?_set_self (by rw [List.length_replicate]; exact hp)] at hj
    cases hj
    simp [madeCells, hp]
  · rw [List.getElem?_set_ne e, List.getElem?_replicate, if_pos hjl] at hj
    cases hj
    simp [madeCells, e, hjl, Nat.mod_one]
theorem get8 (g : Nat) (p : Nat) (c : Int) (w : World) (hc : 0 ≤ c ∧ c ≤ 255) (hs : Sees w (.slice (some ⟨g, 0, none⟩) 8 8) (u8s (one8 p c))) : Calls Tryz.prog 5 #[.slice (some ⟨g, 0, none⟩) 8 8] w fun e w' => ∃ a k, e = .returned (.tuple #[.slice a (getRow (one8 p c)).length k, .int .i64 0]) ∧ RowI w.heap.size w' (.slice a (getRow (one8 p c)).length k) (getRow (one8 p c)) ∧ But [] w w' := by
  obtain ⟨a, k, e, hd⟩ := seesD_sees hs
  rw [one8_len] at e
  cases e
  have h := get_c _ _ (one8 p c) w hd (one8_byte hc) (by rw [one8_len]; omega)
  rw [one8_len] at h
  refine h.mono ?_
  rintro e w' ⟨a, n, k, rfl, hr, hb⟩
  obtain ⟨a', k', e⟩ := hr.form
  cases e
  exact ⟨a, k, by rw [one8_len]; rfl, hr, hb⟩
theorem refGet8 (g : Nat) (p : Nat) (c : Int) (w : World) (hc : 0 ≤ c ∧ c ≤ 255) (hs : Sees w (.slice (some ⟨g, 0, none⟩) 8 8) (u8s (one8 p c))) : Calls Tryz.prog 7 #[.slice (some ⟨g, 0, none⟩) 8 8] w fun e w' => ∃ a k, e = .returned (.tuple #[.slice a (getRow (one8 p c)).length k, .int .i64 0]) ∧ SeesI w' (.slice a (getRow (one8 p c)).length k) (getRow (one8 p c)) ∧ But [] w w' := by
  obtain ⟨a, k, e, hd⟩ := seesD_sees hs
  rw [one8_len] at e
  cases e
  have h := refGet_c _ _ (one8 p c) w hd (one8_byte hc) (by rw [one8_len]; omega)
  rw [one8_len] at h
  refine h.mono ?_
  rintro e w' ⟨a, n, k, rfl, hr, hb⟩
  obtain ⟨a', k', e⟩ := hr.form
  cases e
  exact ⟨a, k, by rw [one8_len]; rfl, hr.sees, hb⟩
theorem put8 (s : Value) (p : Nat) (c : Int) (w : World) (hc : 0 ≤ c ∧ c ≤ 255) (hs : SeesI w s (getRow (one8 p c))) (hsn : ∀ b, s.ownBlock = some b → b < w.heap.size) : Calls Tryz.prog 6 #[s] w fun e w' => ∃ a k, e = .returned (.tuple #[.slice a 8 k, .int .i64 0]) ∧ Sees w' (.slice a 8 k) (u8s (one8 p c)) ∧ But [] w w' := by
  have hg : getErr (one8 p c).length = 0 := by rw [one8_len]; rfl
  obtain ⟨h1, h2⟩ := put_get (one8_byte hc) hg
  refine (put_c s _ w hs (fun x hx => by unfold getRow at hx; rw [if_pos hg] at hx; exact (good_dec (one8_byte hc) _ x hx).1) (by unfold getRow; rw [if_pos hg, decL_len, one8_len]; omega) (fun b hb _ => hsn b hb)).mono ?_
  rintro e w' ⟨a, n, k, rfl, hr, hb⟩
  rw [h1]
  have hr1 := hr.1
  rw [h2] at hr1
  obtain rfl : n = 8 := by have := hr1.len; rw [u8s_len, one8_len] at this; exact this.symm
  exact ⟨a, k, rfl, hr1.sees, hb⟩
/-- A row of slots that are zero, the last with another register. -/
def longI : List Ins := (List.replicate 4097 zI).set 4096 ⟨0, 99, 0, 0, 0⟩
theorem longI_len : longI.length = 4097 := by unfold longI; rw [List.length_set, List.length_replicate]
theorem zI_ok : InsOk zI := ⟨by decide, by decide, by decide, by decide, by decide⟩
theorem longI_ok : ∀ x ∈ longI, InsOk x := fun x hx => by
  rcases List.mem_or_eq_of_mem_set hx with h1 | rfl
  · obtain ⟨_, rfl⟩ := List.mem_replicate.1 h1
    exact zI_ok
  · exact ⟨by decide, by decide, by decide, by decide, by decide⟩
theorem own_cells {W : World} {g n c : Nat} {l : List Ins} (h : OwnI W (.slice (some ⟨g, 0, none⟩) n c) l) {j : Nat} {u : Value} (hj : (l.flatMap Ins.cells)[j]? = some u) : W.cell? ⟨g, j, none⟩ = some u := by
  rcases h with ⟨e, _⟩ | ⟨g', cap, cur, e, h1, _, _, _, h5⟩
  · cases e
  · cases e
    rw [cl_of h1]
    exact h5 j u hj
theorem set_one {W : World} {g k j : Nat} {u v : Value} (h : W.cell? ⟨g, j, none⟩ = some u) (hne : j ≠ k) : (W.setCell ⟨g, k, none⟩ v).cell? ⟨g, j, none⟩ = some u := by
  exact (World.cell?_setCell_other (w := W) (a := ⟨g, k, none⟩) (b := ⟨g, j, none⟩) (v := v) (by intro e; cases e; exact hne rfl)).trans h
theorem zI_99 : ∀ q, q < 5 → q ≠ 1 → zI.cells[q]? = (⟨0, 99, 0, 0, 0⟩ : Ins).cells[q]?
  | 0, _, _ => rfl
  | 1, _, h => absurd rfl h
  | 2, _, _ => rfl
  | 3, _, _ => rfl
  | 4, _, _ => rfl
  | n + 5, h, _ => by omega
theorem long_sees {W : World} {g : Nat} (h : OwnI W (.slice (some ⟨g, 0, none⟩) 4097 4097) (List.replicate 4097 zI)) (hset : (W.setCell ⟨g, 20481, none⟩ (.int .u8 99)).cell? ⟨g, 20481, none⟩ = some (.int .u8 99)) :
    SeesI (W.setCell ⟨g, 20481, none⟩ (.int .u8 99)) (.slice (some ⟨g, 0, none⟩) 4097 4097) longI := by
  refine seesI_cells longI_len.symm (fun j u hj => ?_)
  rcases set_flat (l := List.replicate 4097 zI) (i := 4096) (x := ⟨0, 99, 0, 0, 0⟩) (by rw [List.length_replicate]; omega) hj with ⟨hne, h2⟩ | ⟨q, hq, rfl, hx⟩
  · exact set_one (own_cells h h2) (by omega)
  · by_cases h1 : q = 1
    · subst h1
      simp [Ins.cells] at hx
      subst hx
      exact hset
    · have h3 := flat_cellsI (List.replicate 4097 zI) 4096 q zI (by rw [List.getElem?_replicate, if_pos (by omega)]) hq
      refine set_one (own_cells h (u := u) ?_) (by omega)
      rw [h3, ← hx]
      exact zI_99 q hq h1
theorem short_sees {W : World} {g : Nat} (h : OwnI W (.slice (some ⟨g, 0, none⟩) 4097 4097) (List.replicate 4097 zI)) :
    SeesI (W.setCell ⟨g, 20481, none⟩ (.int .u8 99)) (.slice (some ⟨g, 0, none⟩) 4096 4097) (List.replicate 4096 zI) := by
  refine seesI_cells List.length_replicate.symm (fun j u hj => ?_)
  have hjl := (List.getElem?_eq_some_iff.1 hj).1
  rw [flat_lenI, List.length_replicate] at hjl
  refine set_one (own_cells h (u := u) ?_) (by omega)
  rw [show List.replicate 4097 zI = List.replicate 4096 zI ++ [zI] by rw [← List.replicate_succ'], List.flatMap_append, List.getElem?_append_left (by rw [flat_lenI, List.length_replicate]; exact hjl)]
  exact hj
theorem putShort (s : Value) (w : World) (hs : SeesI w s (List.replicate 4096 zI)) (hsn : ∀ b, s.ownBlock = some b → b < w.heap.size) : Calls Tryz.prog 6 #[s] w fun e w' => ∃ a k bs, e = .returned (.tuple #[.slice a 32768 k, .int .i64 0]) ∧ SeesD w' a k bs ∧ ByteL bs ∧ bs.length = 32768 ∧ But [] w w' := by
  have hok : ∀ x ∈ List.replicate 4096 zI, InsOk x := fun x hx => by obtain ⟨_, rfl⟩ := List.mem_replicate.1 hx; exact zI_ok
  have herr : putErr (List.replicate 4096 zI) = 0 := putErr_good (by rw [List.length_replicate]; omega) (fun x hx => by obtain ⟨_, rfl⟩ := List.mem_replicate.1 hx; exact ⟨by decide, by decide⟩)
  have hlen : (putRow (List.replicate 4096 zI)).length = 32768 := by unfold putRow; rw [if_pos herr, enc_all, List.length_replicate]
  refine (put_c s _ w hs hok (by rw [List.length_replicate]; omega) (fun b hb _ => hsn b hb)).mono ?_
  rintro e w' ⟨a, n, k, rfl, hr, hb⟩
  obtain rfl : n = 32768 := by have := hr.1.len; rw [u8s_len, hlen] at this; exact this.symm
  have hd := seesD_of hr.1 (putRow (List.replicate 4096 zI)).length (Nat.le_refl _)
  rw [List.take_length] at hd
  exact ⟨a, k, _, by rw [herr], hd, byteL_put hok, hlen, hb⟩
theorem putLong (s : Value) (w : World) (hs : SeesI w s longI) (hsn : ∀ b, s.ownBlock = some b → b < w.heap.size) : Calls Tryz.prog 6 #[s] w fun e w' => ∃ v, e = .returned (.tuple #[v, .int .i64 3]) ∧ But [] w w' := by
  refine (put_c s _ w hs longI_ok (by rw [longI_len]; omega) (fun b hb _ => hsn b hb)).mono ?_
  rintro e w' ⟨a, n, k, rfl, hr, hb⟩
  exact ⟨_, by rw [putErr_long (by rw [longI_len]; omega)], hb⟩
theorem getAny (a : Option Addr) (n k : Nat) (bs : List Int) (w : World) (hs : SeesD w a k bs) (hr : ByteL bs) (hl : bs.length = n) (hn : n ≤ 1000000) : Calls Tryz.prog 5 #[.slice a n k] w fun e w' => ∃ v, e = .returned (.tuple #[v, .int .i64 (getErr n)]) ∧ But [] w w' := by
  subst hl
  refine (get_c a k bs w hs hr (by omega)).mono ?_
  rintro e w' ⟨a, n, k, rfl, hr, hb⟩
  exact ⟨_, rfl, hb⟩
theorem get9 (g : Nat) (w : World) (hs : Sees w (.slice (some ⟨g, 0, none⟩) 32769 32769) (u8s (made8 32769))) : Calls Tryz.prog 5 #[.slice (some ⟨g, 0, none⟩) 32769 32769] w fun e w' => ∃ v, e = .returned (.tuple #[v, .int .i64 3]) ∧ But [] w w' := by
  obtain ⟨a, k, e, hd⟩ := seesD_sees hs
  rw [made8_len] at e
  cases e
  have h := getAny _ 32769 _ (made8 32769) w hd (made8_byte _) (made8_len _) (by omega)
  rw [show getErr 32769 = 3 by decide] at h
  exact h
set_option maxRecDepth 100000 in
set_option maxHeartbeats 8000000 in
theorem codeNumbers (w : World) : Calls Tryz.prog 3 #[] w fun e w' => e = .returned (.bool true) ∧ But [] w w' := by
  obtain ⟨i0, hi, hz0, hz1, hz2⟩ := info_parts (show (Tryz.prog.info? 5).map (fun i => (i.zero, i.size, i.bytes)) = some (some (.int .u8 0), 1, 1) by kernel_rfl)
  obtain ⟨j0, ki, kz0, kz1, kz2⟩ := info_parts (show (Tryz.prog.info? 27).map (fun i => (i.zero, i.size, i.bytes)) = some (some (.agg #[.int .u8 0, .int .u8 0, .int .u8 0, .int .i16 0, .int .i32 0]), 5, 12) by kernel_rfl)
  have HMK : Hid (∀ (w : World) (k : Nat), k ≤ 1000000 → (Instr.makeSlice 22 (.int .i64 (k : Int)) (.int .i64 (k : Int))).run Tryz.prog w = .ok (.slice (some ⟨w.heap.size, 0, none⟩) k k) (w.alloc (.cells (madeCells #[.int .u8 0] k) 5))) := Lib.hid fun w k hk => by
    have h := run_make (P := Tryz.prog) w 22 5 i0 (.int .u8 0) Tryz.underlying22 hi hz0 .i64 .i64 (k : Int) (k : Int) (by omega) (by omega) (by rw [hz2]; omega) (by omega)
    rw [h, hz1]
    simp only [Int.toNat_natCast, Nat.mul_one]
    rfl
  have HMI : Hid (∀ w : World, (Instr.makeSlice 28 (.int .i64 4097) (.int .i64 4097)).run Tryz.prog w = .ok (.slice (some ⟨w.heap.size, 0, none⟩) 4097 4097) (w.alloc (.cells (madeCells zA (4097 * 5)) 27))) := Lib.hid fun w => by
    have h := run_make (P := Tryz.prog) w 28 27 j0 (.agg zA) Tryz.underlying28 ki kz0 .i64 .i64 4097 4097 (by omega) (by omega) (by rw [kz2]; omega) (by omega)
    rw [h, kz1]
    rfl
  obtain ⟨W0, hW0⟩ : ∃ W0, W0 = ((w.alloc (.cells #[.int .u8 0, .int .u8 1, .int .u8 10, .int .u8 15, .int .u8 16, .int .u8 255] 5)).alloc (.cells #[.int .i16 (-32768), .int .i16 (-1), .int .i16 0, .int .i16 1, .int .i16 255, .int .i16 256, .int .i16 32767] 23)).alloc (.cells #[.int .i32 (-2147483648), .int .i32 (-1), .int .i32 0, .int .i32 1, .int .i32 255, .int .i32 65536, .int .i32 2147483647] 21) := ⟨_, rfl⟩
  have HB0 : Hid (But [] w W0) := Lib.hid (by rw [hW0]; exact (((But.refl [] w).alloc _).alloc _).alloc _)
  have HR0 : Hid (W0.heap[w.heap.size]? = some (.cells regsA 5)) := Lib.hid (by rw [hW0]; exact al_keep (al_keep (al_at _ _) _) _)
  have HO0 : Hid (W0.heap[w.heap.size + 1]? = some (.cells offsA 23)) := Lib.hid (by rw [hW0]; exact al_keep (al_eq _ _ _ (by rw [size_alloc])) _)
  have HM0 : Hid (W0.heap[w.heap.size + 1 + 1]? = some (.cells immsA 21)) := Lib.hid (by rw [hW0]; exact al_eq _ _ _ (by rw [size_alloc, size_alloc]))
  have HW := Lib.hid hW0
  clear hW0 hi hz0 hz1 hz2 ki kz0 kz1 kz2
  go_enter Tryz.func3, Tryz.ntmps3
  go_upto_block 0 with fail
  rw [← HW.out]
  clear HW
  go_cut [] (fun wx => But [] W0 wx)
  case first =>
    go_wp2_with fail
    go_loopw [4] (fun i wr => ∃ n : Nat, n ≤ 7 ∧ i = .int .i64 n ∧ But [] W0 wr) (fun i _ => 7 - (intOf i).toNat)
    case atStart => exact ⟨0, by omega, rfl, But.refl _ _⟩
    case round =>
      obtain ⟨i, hi, rfl, hb⟩ := hrel
      have HB1 := Lib.hid hb
      clear hb
      by_cases hlt : i < 7
      · obtain ⟨fo, hfo, hfo1, hfo2⟩ := offs_at i hlt
        have HFO := Lib.hid hfo
        have hi0 : (0 : Int) ≤ i := by omega
        have hi7 : (i : Int) < 7 := by omega
        clear hfo
        go_wp2_with fail
        go_loopw [5] (fun i wr => ∃ n : Nat, n ≤ 7 ∧ i = .int .i64 n ∧ But [] W0 wr) (fun i _ => 7 - (intOf i).toNat)
        case atStart => exact ⟨0, by omega, rfl, HB1.out⟩
        case round =>
          obtain ⟨k, hk, rfl, hb⟩ := hrel
          have HB2 := Lib.hid hb
          clear hb HB1
          by_cases hlt2 : k < 7
          · obtain ⟨im, him, him1, him2⟩ := imms_at k hlt2
            have HIM := Lib.hid him
            have hk0 : (0 : Int) ≤ k := by omega
            have hk7 : (k : Int) < 7 := by omega
            clear him
            go_wp2_with fail
            go_loopw [6] (fun i wr => ∃ n : Nat, n ≤ 6 ∧ i = .int .i64 n ∧ But [] W0 wr) (fun i _ => 6 - (intOf i).toNat)
            case atStart => exact ⟨0, by omega, rfl, HB2.out⟩
            case round =>
              obtain ⟨n, hn, rfl, hb⟩ := hrel
              have HB3 := Lib.hid hb
              by_cases hlt3 : n < 6
              · obtain ⟨r1, hr1, hr11, hr12⟩ := regs_at n hlt3
                obtain ⟨m, hm⟩ : ∃ m, m = (n + i) % 6 := ⟨_, rfl⟩
                have hm6 : m < 6 := by omega
                obtain ⟨r2, hr2, hr21, hr22⟩ := regs_at m hm6
                have HMM : Hid (((n : Int) + i).tmod 6 = m) := Lib.hid (by rw [Int.tmod_eq_emod_of_nonneg (by omega)]; omega)
                have H1 : Hid (wr.cell? ⟨w.heap.size, n, none⟩ = some (.int .u8 r1)) := Lib.hid (cell_but hb (by rw [cl_of HR0.out]; exact hr1) (by simp))
                have H2 : Hid (wr.cell? ⟨w.heap.size, m, none⟩ = some (.int .u8 r2)) := Lib.hid (cell_but hb (by rw [cl_of HR0.out]; exact hr2) (by simp))
                have H3 : Hid (wr.cell? ⟨w.heap.size + 1, i, none⟩ = some (.int .i16 fo)) := Lib.hid (cell_but hb (by rw [cl_of HO0.out]; exact HFO.out) (by simp))
                have H4 : Hid (wr.cell? ⟨w.heap.size + 1 + 1, k, none⟩ = some (.int .i32 im)) := Lib.hid (cell_but hb (by rw [cl_of HM0.out]; exact HIM.out) (by simp))
                have hn0 : (0 : Int) ≤ n := by omega
                have hn6 : (n : Int) < 6 := by omega
                have HOK : Hid (InsOk ⟨(n : Int) * 51, r1, r2, fo, im⟩) := Lib.hid ⟨⟨show (0 : Int) ≤ (n : Int) * 51 by omega, show (n : Int) * 51 ≤ 255 by omega⟩, ⟨hr11, hr12⟩, ⟨hr21, hr22⟩, ⟨hfo1, hfo2⟩, ⟨him1, him2⟩⟩
                clear hb hr1 hr2 hm HB2
                go_wp2_with fail
                refine n13 _ hlt3 hlt hlt2 hm6 HMM H1 H2 H3 H4 ?_
                intro z42 z43 z44 z45 z46 z47 z48 z49 z50 z51 z52 z53 z54 z55 z56 z57 z58 z59 z60 z61 z62 z63 z64 w5 hb5
                have HB5 := Lib.hid (HB3.out.trans hb5 (by simp))
                have HC5 := Lib.hid (al_at w5 (.cells #[.int .u8 ((n : Int) * 51), .int .u8 r1, .int .u8 r2, .int .i16 fo, .int .i32 im] 27))
                clear hb5 H1 H2 H3 H4 hr11 hr12 hr21 hr22
                obtain ⟨W5, hW5⟩ : ∃ W5, W5 = w5.alloc (.cells #[.int .u8 ((n : Int) * 51), .int .u8 r1, .int .u8 r2, .int .i16 fo, .int .i32 im] 27) := ⟨_, rfl⟩
                have HBW : Hid (But [] W0 W5) := Lib.hid (by rw [hW5]; exact HB5.out.alloc _)
                rw [← hW5] at HC5 ⊢
                obtain ⟨g, hg⟩ : ∃ g, g = w5.heap.size := ⟨_, rfl⟩
                rw [← hg] at HC5 ⊢
                clear hW5 hg
                go_wp2_with fail
                refine (codePuts _ [⟨(n : Int) * 51, r1, r2, fo, im⟩] _ (came_one HC5.out HOK.out) (by simp)).mono ?_
                rintro e w6 ⟨rfl, hb6⟩
                have HB6 := Lib.hid (HBW.out.trans hb6 (by simp))
                have h6 := hb6.heap HC5.out (by simp)
                have d0 := cl_of h6 0
                have d1 := cl_of h6 1
                have d2 := cl_of h6 2
                have d3 := cl_of h6 3
                have d4 := cl_of h6 4
                simp only [List.getElem?_toArray, List.getElem?_cons_zero, List.getElem?_cons_succ] at d0 d1 d2 d3 d4
                have HC6 := Lib.hid (al_at w6 (.cells #[.int .u8 7, .int .u8 0, .int .u8 0, .int .i16 0, .int .i32 0, .int .u8 ((n : Int) * 51), .int .u8 r1, .int .u8 r2, .int .i16 fo, .int .i32 im] 27))
                have HBX : Hid (But [] W0 (w6.alloc (.cells #[.int .u8 7, .int .u8 0, .int .u8 0, .int .i16 0, .int .i32 0, .int .u8 ((n : Int) * 51), .int .u8 r1, .int .u8 r2, .int .i16 fo, .int .i32 im] 27))) := Lib.hid (HB6.out.alloc _)
                clear hb6 h6
                go_wp2_with fail
                refine (codePuts _ [⟨7, 0, 0, 0, 0⟩, ⟨(n : Int) * 51, r1, r2, fo, im⟩] _ (came_two (x := ⟨7, 0, 0, 0, 0⟩) HC6.out ⟨by decide, by decide, by decide, by decide, by decide⟩ HOK.out) (by simp)).mono ?_
                rintro e w7 ⟨rfl, hb7⟩
                have HB7 := Lib.hid (HBX.out.trans hb7 (by simp))
                clear hb7 d0 d1 d2 d3 d4
                go_wp2_with fail
                go_roundw
                case rel => exact ⟨n + 1, by omega, by go_num, HB7.out⟩
                case measure => simp [intOf]; omega
              · obtain rfl : n = 6 := by omega
                go_wp2_with fail
                go_roundw
                case rel => exact ⟨k + 1, by omega, by go_num, HB3.out⟩
                case measure => simp [intOf]; omega
          · obtain rfl : k = 7 := by omega
            go_wp2_with fail
            go_roundw
            case rel => exact ⟨i + 1, by omega, by go_num, HB2.out⟩
            case measure => simp [intOf]; omega
      · obtain rfl : i = 7 := by omega
        go_wp2_with fail
        go_meet
        exact HB1.out
  case rest =>
    have HBA : Hid (But [] w wc) := Lib.hid (HB0.out.trans hcut (by simp))
    clear hcut HR0 HO0 HM0
    go_upto_block 6 with fail
    go_cut [] (fun wx => But [] w wx)
    case first =>
      go_wp2_with fail
      go_loopw [8] (fun i wr => ∃ n : Nat, n ≤ 8 ∧ i = .int .i64 n ∧ But [] w wr) (fun i _ => 8 - (intOf i).toNat)
      case atStart => exact ⟨0, by omega, rfl, HBA.out⟩
      case round =>
        obtain ⟨p, hp, rfl, hb⟩ := hrel
        have HB1 := Lib.hid hb
        clear hb HBA
        by_cases hlt : p < 8
        · have hp0 : (0 : Int) ≤ p := by omega
          have hp8 : (p : Int) < 8 := by omega
          go_wp2_with fail
          go_loopw [9] (fun i wr => ∃ n : Nat, n ≤ 256 ∧ i = .int .i64 n ∧ But [] w wr) (fun i _ => 256 - (intOf i).toNat)
          case atStart => exact ⟨0, by omega, rfl, HB1.out⟩
          case round =>
            obtain ⟨c, hc, rfl, hb⟩ := hrel
            have HB2 := Lib.hid hb
            clear hb HB1
            by_cases hlt2 : c < 256
            · have hc0 : (0 : Int) ≤ c := by omega
              have hc2 : (c : Int) < 256 := by omega
              have hcc : (0 : Int) ≤ c ∧ (c : Int) ≤ 255 := by omega
              have hwc : IntKind.u8.wrap (c : Int) = c := by rw [IntKind.wrap_u8]; omega
              obtain ⟨W1, hW1⟩ : ∃ W1, W1 = wr.alloc (.cells (madeCells #[.int .u8 0] 8) 5) := ⟨_, rfl⟩
              have hg1 : W1.heap[wr.heap.size]? = some (.cells (madeCells #[.int .u8 0] 8) 5) := by rw [hW1]; exact al_at _ _
              have c1 : W1.cell? ⟨wr.heap.size, p, none⟩ = some (.int .u8 0) := by rw [cl_of hg1]; simp [madeCells, hlt, Nat.mod_one]
              have f1 : W1.frozen? ⟨wr.heap.size, p, none⟩ = false := by unfold World.frozen?; rw [hg1]; simp
              have hS := sees_one8 wr p c hlt
              have hmk : (Instr.makeSlice 22 (.int .i64 8) (.int .i64 8)).run Tryz.prog wr = .ok (.slice (some ⟨wr.heap.size, 0, none⟩) 8 8) W1 := by rw [hW1]; exact HMK.out wr 8 (by omega)
              rw [← hW1] at hS
              have HS := Lib.hid hS
              have HBS : Hid (But [] w (W1.setCell ⟨wr.heap.size, p, none⟩ (.int .u8 (c : Int)))) := Lib.hid (by rw [hW1]; exact (HB2.out.alloc _).setCell (.inr HB2.out.size) _)
              obtain ⟨g, hg⟩ : ∃ g, g = wr.heap.size := ⟨_, rfl⟩
              rw [← hg] at hmk c1 f1 HS HBS
              clear hg1 hS hW1 hg
              go_wp2_with fail
              refine (get8 g p c _ hcc HS.out).mono ?_
              rintro e w2 ⟨a2, k2, rfl, hr2, hb2⟩
              have HR2 := Lib.hid hr2
              have HB3 := Lib.hid (HBS.out.trans hb2 (by simp))
              have HS2 := Lib.hid (HS.out.but hb2 (by simp))
              clear hr2 hb2 hmk c1 f1
              go_wp2_with fail
              refine (put8 _ p c _ hcc HR2.out.sees (fun b hb => HR2.out.lt hb)).mono ?_
              rintro e w3 ⟨a3, k3, rfl, hr3, hb3⟩
              have HR3 := Lib.hid hr3
              have HB4 := Lib.hid (HB3.out.trans hb3 (by simp))
              have HS3 := Lib.hid (HS2.out.but hb3 (by simp))
              have HR23 := Lib.hid (HR2.out.but hb3 (by simp))
              clear hr3 hb3
              go_wp2_with fail
              refine (refGet8 g p c _ hcc HS3.out).mono ?_
              rintro e w4 ⟨a4, k4, rfl, hr4, hb4⟩
              have HR4 := Lib.hid hr4
              have HB5 := Lib.hid (HB4.out.trans hb4 (by simp))
              have HS4 := Lib.hid (HS3.out.but hb4 (by simp))
              have HR24 := Lib.hid (HR23.out.but hb4 (by simp))
              have HR34 := Lib.hid (HR3.out.but hb4 (by simp))
              have hgl : (getRow (one8 p c)).length ≤ 1000000 := by unfold getRow; rw [if_pos (by rw [one8_len]; rfl), decL_len, one8_len]; omega
              clear hr4 hb4
              go_wp2_with fail
              refine (sameI _ _ (getRow (one8 p c)) _ HR24.out.sees HR4.out hgl).mono ?_
              rintro e w5 ⟨rfl, hb5⟩
              have HB6 := Lib.hid (HB5.out.trans hb5 (by simp))
              have HS5 := Lib.hid (HS4.out.but hb5 (by simp))
              have HR35 := Lib.hid (HR34.out.but hb5 (by simp))
              clear hb5
              go_wp2_with fail
              refine (same _ _ (one8 p c) (one8 p c) _ HR35.out HS5.out (by rw [one8_len]; omega)).mono ?_
              rintro e w6 ⟨rfl, hb6⟩
              rw [show decide (one8 p c = one8 p c) = true by simp]
              have HB7 := Lib.hid (HB6.out.trans hb6 (by simp))
              clear hb6
              go_wp2_with fail
              go_roundw
              case rel => exact ⟨c + 1, by omega, by go_num, HB7.out⟩
              case measure => simp [intOf]; omega
            · obtain rfl : c = 256 := by omega
              go_wp2_with fail
              go_roundw
              case rel => exact ⟨p + 1, by omega, by go_num, HB2.out⟩
              case measure => simp [intOf]; omega
        · obtain rfl : p = 8 := by omega
          go_wp2_with fail
          go_meet
          exact HB1.out
    case rest =>
      have HBB := Lib.hid hcut
      clear hcut HBA
      go_upto_block 10 with fail
      go_cut [] (fun wx => But [] w wx)
      case first =>
        go_wp2_with fail
        go_loopw [17] (fun i wr => ∃ n : Nat, n ≤ 20 ∧ i = .int .i64 n ∧ But [] w wr) (fun i _ => 20 - (intOf i).toNat)
        case atStart => exact ⟨0, by omega, rfl, HBB.out⟩
        case round =>
          obtain ⟨n, hn, rfl, hb⟩ := hrel
          have HB1 := Lib.hid hb
          clear hb HBB
          by_cases hlt : n < 20
          · have hn0 : (0 : Int) ≤ n := by omega
            have hn20 : (n : Int) < 20 := by omega
            have hmk := HMK.out wr n (by omega)
            have HS := Lib.hid (sees8 (n := n) (al_at wr (.cells (madeCells #[.int .u8 0] n) 5)) (Nat.le_refl _))
            have HBS : Hid (But [] w (wr.alloc (.cells (madeCells #[.int .u8 0] n) 5))) := Lib.hid (HB1.out.alloc _)
            go_wp2_with fail
            refine (codeGets _ (made8 n) _ ⟨HS.out, made8_byte n⟩ (by rw [made8_len]; omega)).mono ?_
            rintro e w2 ⟨rfl, hb2⟩
            have HB2 := Lib.hid (HBS.out.trans hb2 (by simp))
            clear hb2 hmk
            go_wp2_with fail
            go_roundw
            case rel => exact ⟨n + 1, by omega, by go_num, HB2.out⟩
            case measure => simp [intOf]; omega
          · obtain rfl : n = 20 := by omega
            go_wp2_with fail
            go_meet
            exact HB1.out
      case rest =>
        have HBC := Lib.hid hcut
        clear hcut HBB
        have hmi := HMI.out wc
        obtain ⟨W1, hW1⟩ : ∃ W1, W1 = wc.alloc (.cells (madeCells zA (4097 * 5)) 27) := ⟨_, rfl⟩
        have hown := madeI_que wc 4097 (by unfold maxLen; omega)
        rw [← hW1] at hmi hown
        have HB1 : Hid (But [] w W1) := Lib.hid (by rw [hW1]; exact HBC.out.alloc _)
        obtain ⟨g, hg⟩ : ∃ g, g = wc.heap.size := ⟨_, rfl⟩
        have hwg : w.heap.size ≤ g := by rw [hg]; exact HBC.out.size
        have hgl : g < W1.heap.size := by rw [hW1, size_alloc]; omega
        rw [← hg] at hmi hown
        have c1 : W1.cell? ⟨g, 20481, none⟩ = some (.int .u8 0) := own_cells hown (by
          have h := flat_cellsI (List.replicate 4097 zI) 4096 1 zI (by rw [List.getElem?_replicate, if_pos (by omega)]) (by omega)
          exact h)
        have f1 : W1.frozen? ⟨g, 20481, none⟩ = false := hown.frozenAt 20481
        have HL := Lib.hid (long_sees hown (World.cell?_setCell_same _ _ _ c1))
        have HSH := Lib.hid (short_sees hown)
        have HB2 : Hid (But [] w (W1.setCell ⟨g, 20481, none⟩ (.int .u8 99))) := Lib.hid (HB1.out.setCell (.inr hwg) _)
        have HGL : Hid (g < (W1.setCell ⟨g, 20481, none⟩ (.int .u8 99)).heap.size) := Lib.hid (by simpa [World.setCell] using hgl)
        clear hW1 hg hown hwg hgl
        have HMK9 : Hid (∀ w : World, (Instr.makeSlice 22 (.int .i64 32769) (.int .i64 32769)).run Tryz.prog w = .ok (.slice (some ⟨w.heap.size, 0, none⟩) 32769 32769) (w.alloc (.cells (madeCells #[.int .u8 0] 32769) 5))) := Lib.hid fun w => HMK.out w 32769 (by omega)
        go_wp2_with fail
        refine (putShort _ _ HSH.out (fun b hb => by cases hb; exact HGL.out)).mono ?_
        rintro e w2 ⟨a2, k2, bs, rfl, hd2, hy2, hl2, hb2⟩
        have HD2 := Lib.hid hd2
        have HY2 := Lib.hid hy2
        have HL2 := Lib.hid hl2
        have HB3 := Lib.hid (HB2.out.trans hb2 (by simp))
        have HLB := Lib.hid (HL.out.but hb2 (by simp))
        have HGL2 : Hid (g < w2.heap.size) := Lib.hid (Nat.lt_of_lt_of_le HGL.out hb2.size)
        clear hd2 hy2 hl2 hb2 hmi c1 f1 HL HSH
        go_wp2_with fail
        refine (putLong _ _ HLB.out (fun b hb => by cases hb; exact HGL2.out)).mono ?_
        rintro e w3 ⟨v3, rfl, hb3⟩
        have HB4 := Lib.hid (HB3.out.trans hb3 (by simp))
        have HD3 := Lib.hid (HD2.out.but hb3 (by simp))
        clear hb3
        go_wp2_with fail
        refine (getAny a2 32768 k2 bs _ HD3.out HY2.out HL2.out (by omega)).mono ?_
        rintro e w4 ⟨v4, rfl, hb4⟩
        rw [show getErr 32768 = 0 by decide]
        have HB5 := Lib.hid (HB4.out.trans hb4 (by simp))
        have hmk9 := HMK9.out w4
        have HS9 := Lib.hid (sees8 (n := 32769) (al_at w4 (.cells (madeCells #[.int .u8 0] 32769) 5)) (Nat.le_refl _))
        have HB6 : Hid (But [] w (w4.alloc (.cells (madeCells #[.int .u8 0] 32769) 5))) := Lib.hid (HB5.out.alloc _)
        clear hb4
        go_wp2_with fail
        refine (get9 _ _ HS9.out).mono ?_
        rintro e w5 ⟨v5, rfl, hb5⟩
        have HB7 := Lib.hid (HB6.out.trans hb5 (by simp))
        clear hb5 hmk9
        go_wp2_with fail
        refine (codePuts _ [] _ (came_nil _) (by simp)).mono ?_
        rintro e w6 ⟨rfl, hb6⟩
        have HB8 := Lib.hid (HB7.out.trans hb6 (by simp))
        clear hb6
        go_wp2_with fail
        refine (awake _).mono ?_
        rintro e w7 ⟨rfl, hb7⟩
        have HB9 := Lib.hid (HB8.out.trans hb7 (by simp))
        clear hb7
        go_wp2_with fail
        go_ret
        exact ⟨rfl, HB9.out⟩
theorem codeNumbers_walk (w : World) : Calls Tryz.prog 3 #[] w fun e w' => e = .returned (.bool true) ∧ Below w.heap.size w w' :=
  (codeNumbers w).mono fun _ _ ⟨he, hb⟩ => ⟨he, hb.below (Nat.le_refl _) (by simp)⟩
end Go.Proofs.YtddeckkcfcodbaaGreat.M
