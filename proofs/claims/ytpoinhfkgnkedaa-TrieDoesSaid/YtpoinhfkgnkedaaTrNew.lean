/-
  trie.New.
-/
import Derived.Test.YtpoinhfkgnkedaaIdx
import Derived.Test.YtpoinhfkgnkedaaPlain
import Derived.Test.YtpoinhfkgnkedaaGrow
import Derived.Test.YtpoinhfkgnkedaaSpecAny
import Derived.Lib.SmallJoins
namespace Go.Proofs.Ytpoinhfkgnkedaa.M
open Go.RowKit Go.Shelf
set_option linter.unusedVariables false
set_option linter.unusedSectionVars false
set_option linter.unusedSimpArgs false
section
variable {w : World}
theorem ne_type {a b : Nat} {C D : Array Value} {S T : TypeId} {f q : Nat × Nat} (h1 : w.heap[a]? = some (.cells C S f)) (h2 : w.heap[b]? = some (.cells D T q)) (hne : S ≠ T) : a ≠ b := fun e => by
  subst e
  rw [h1] at h2
  simp only [Option.some.injEq, Obj.cells.injEq] at h2
  exact hne h2.2.1
end
def Cell1 (w : World) (b o : Nat) : Prop := ∃ C T, w.heap[b]? = some (.cells C T (0, 0)) ∧ o < C.size
theorem Cell1.cell {w : World} {b o : Nat} (h : Cell1 w b o) : ∃ v, w.cell? ⟨b, o, none⟩ = some v := by
  obtain ⟨C, T, h1, h2⟩ := h
  exact ⟨C[o], by rw [cl_of h1]; exact Array.getElem?_eq_getElem h2⟩
theorem Cell1.frozen {w : World} {b o : Nat} (h : Cell1 w b o) : w.frozen? ⟨b, o, none⟩ = false := by
  obtain ⟨C, T, h1, h2⟩ := h
  exact fz_of h1 o
theorem heap_setC {w : World} {g p : Nat} {cs : Array Value} {t : TypeId} {f : Nat × Nat} {v : Value} (h : w.heap[g]? = some (.cells cs t f)) : (w.setCell ⟨g, p, none⟩ v).heap[g]? = some (.cells (cs.set! p v) t f) := by
  simp [World.setCell, Array.getElem?_modify, h]
theorem heap_setN {w : World} {g b p : Nat} {v : Value} (h : g ≠ b) : (w.setCell ⟨g, p, none⟩ v).heap[b]? = w.heap[b]? := by
  simp [World.setCell, Array.getElem?_modify, h]
theorem calls_val {P : Program} {k : FuncId} {args : Array Value} {w : World} {v v' : Value} {R : World → Prop} (h : Calls P k args w fun e w' => e = .returned v ∧ R w') (hv : v = v') : Calls P k args w fun e w' => e = .returned v' ∧ R w' := by
  subst hv; exact h
theorem newErr (k key val ent E : Int) (w : World) (hk : (Lit.int .u8 k).wf = true) (hE : specE k key val ent = E) (h0 : (E == 0) = false) :
    Calls Try.prog 9 #[.agg #[.int .u8 k, .int .i64 key, .int .i64 val, .int .i64 ent]] w fun e w' => e = .returned (.tuple #[.pointer none, .int .i64 E]) ∧ But [] w w' := by
  have hn0 : (E != 0) = true := by simpa using h0
  have HE := Lib.hid hE
  clear hE
  go_enter Try.func9, Try.ntmps9
  go_wp2_with fail
  refine (calls_val (specAny k key val ent _ hk) (v' := .int .i64 E) (by rw [HE.out])).mono ?_
  rintro e w1 ⟨rfl, hb⟩
  go_wp2_with fail
  go_ret2
  exact ⟨rfl, ((But.refl _ _).alloc _).trans hb (by simp)⟩
theorem newKind (k key val ent : Int) (w : World) (hk : (Lit.int .u8 k).wf = true) (hE : specE k key val ent = 0) (h4 : (k == 4) = false) :
    Calls Try.prog 9 #[.agg #[.int .u8 k, .int .i64 key, .int .i64 val, .int .i64 ent]] w fun e w' => e = .returned (.tuple #[.pointer none, .int .i64 9]) ∧ But [] w w' := by
  have h4' : (k != 4) = true := by simpa using h4
  have HE := Lib.hid hE
  have hb1 : But [] w (w.alloc (.cells #[.int .u8 k, .int .i64 key, .int .i64 val, .int .i64 ent] 24)) := (But.refl [] w).alloc _
  have ha := al_at w (.cells #[.int .u8 k, .int .i64 key, .int .i64 val, .int .i64 ent] 24)
  have HB1 := Lib.hid hb1
  have HAA := Lib.hid ha
  clear hE hb1 ha
  go_enter Try.func9, Try.ntmps9
  go_wp2_with fail
  refine (calls_val (specAny k key val ent _ hk) (v' := .int .i64 0) (by rw [HE.out])).mono ?_
  rintro e w1 ⟨rfl, hb⟩
  have c0 : w1.cell? ⟨w.heap.size, 0, none⟩ = some (.int .u8 k) := cl_of (hb.heap HAA.out (by simp)) 0
  have HB := Lib.hid hb
  clear hb
  go_wp2_with fail
  go_ret2
  exact ⟨rfl, HB1.out.trans HB.out (by simp)⟩
theorem specE_trie {key val ent : Int} (h : specE 4 key val ent = 0) : (5 ≤ key ∧ key ≤ 36) ∧ (1 ≤ val ∧ val ≤ 1024) ∧ (1 ≤ ent ∧ ent ≤ 1024) := by
  simp only [specE, rowB4, rowE] at h
  split at h
  · rename_i h2
    simp only [inB, Bool.and_eq_true, decide_eq_true_eq] at h2
    omega
  · cases h
theorem round_num {k N : Nat} (h : k < N) (hN : N ≤ 1024) : Value.int .i64 (wrap64 ((k : Int) + 1)) = .int .i64 ((k + 1 : Nat) : Int) ∧ N - (intOf (.int .i64 (wrap64 ((k : Int) + 1)))).toNat < N - (intOf (.int .i64 (k : Int))).toNat := by
  have hw : wrap64 ((k : Int) + 1) = (k : Int) + 1 := by unfold wrap64; omega
  rw [hw]
  refine ⟨by congr 1, ?_⟩
  simp only [intOf]
  omega
theorem num_lt {k N : Nat} (h : k < N) : (k : Int) < N := by omega
theorem num_ge {k N : Nat} (h : ¬ k < N) : ¬ (k : Int) < N := by omega
theorem num_eq {k N : Nat} (h : k ≤ N) (h2 : ¬ k < N) : k = N := by omega
/-- A trie under way in New: the first i rows are laid. -/
structure NewT (W wr : World) (P root U Rm : Nat) (g : Nat → Nat) (K V N i : Nat) : Prop where
  head : HeadW wr P root U Rm 4 K V N
  node : wr.heap[root]? = some (.cells (nodeCells none none none) 67)
  used : UsedW wr U N (fun _ => false)
  room : ∃ C, wr.heap[Rm]? = some (.cells C 26 (0, 0)) ∧ C.size = N ∧ ∀ j, j < i → C[j]? = some (.slice (some ⟨g j, 0, none⟩) V V)
  row : ∀ j, j < i → wr.heap[g j]? = some (.cells (u8s (List.replicate V 0)).toArray 5 (0, 0)) ∧ W.heap.size ≤ g j
  inj : ∀ a b, a < i → b < i → g a = g b → a = b
  low : W.heap.size ≤ P ∧ W.heap.size ≤ root ∧ W.heap.size ≤ U ∧ W.heap.size ≤ Rm
  but : But [] W wr
theorem UsedW.but {w w' : World} {U N : Nat} {f : Nat → Bool} {L : List Nat} (h : UsedW w U N f) (hb : But L w w') (hn : U ∉ L) : UsedW w' U N f := by
  obtain ⟨C, h1, h2⟩ := h
  exact ⟨C, hb.heap h1 hn, h2⟩
theorem NewT.roomAt {W wr : World} {P root U Rm : Nat} {g : Nat → Nat} {K V N i : Nat} (h : NewT W wr P root U Rm g K V N i) : ∃ C, wr.heap[Rm]? = some (.cells C 26 (0, 0)) ∧ C.size = N := by
  obtain ⟨C, h1, h2, _⟩ := h.room
  exact ⟨C, h1, h2⟩
theorem NewT.box {w W wr : World} {P root U Rm : Nat} {g : Nat → Nat} {K V N i : Nat} (h : NewT W wr P root U Rm g K V N i) {c0 c1 c3 : Value} (hw : W.heap[w.heap.size]? = some (.cells #[c0, c1, .int .i64 V, c3] 24)) : ∀ w', But [Rm] wr w' → w'.cell? ⟨P, 6, none⟩ = some (.slice (some ⟨Rm, 0, none⟩) N N) ∧ w'.cell? ⟨w.heap.size, 2, none⟩ = some (.int .i64 V) := fun w' hb => by
  obtain ⟨C, hR, _⟩ := h.room
  have h1 := h.but.heap hw (by simp)
  exact ⟨cl_of (hb.heap h.head (by simp only [List.mem_singleton]; exact ne_type h.head hR (by decide))) 6, cl_of (hb.heap h1 (by simp only [List.mem_singleton]; exact ne_type h1 hR (by decide))) 2⟩
theorem made_u8s (V : Nat) : madeCells #[.int .u8 0] V = (u8s (List.replicate V 0)).toArray := by
  apply Array.ext'
  rw [toList_madeCells_one]
  simp [u8s]
theorem NewT.step {W wr : World} {P root U Rm : Nat} {g : Nat → Nat} {K V N i : Nat} (h : NewT W wr P root U Rm g K V N i) (hi : i < N) :
    NewT W ((wr.alloc (.cells (madeCells #[.int .u8 0] V) 5)).setCell ⟨Rm, i, none⟩ (.slice (some ⟨wr.heap.size, 0, none⟩) V V)) P root U Rm (fun j => if j = i then wr.heap.size else g j) K V N (i + 1) := by
  obtain ⟨C, hR, hN, hC⟩ := h.room
  have hP := h.head
  have hM := h.node
  obtain ⟨F, hU, _⟩ := id h.used
  have b1 : But [] wr (wr.alloc (.cells (madeCells #[.int .u8 0] V) 5)) := (But.refl [] wr).alloc _
  have b2 : But [Rm] wr ((wr.alloc (.cells (madeCells #[.int .u8 0] V) 5)).setCell ⟨Rm, i, none⟩ (.slice (some ⟨wr.heap.size, 0, none⟩) V V)) := ((But.refl [Rm] wr).alloc _).setCell (.inl (by simp)) _
  have hlt := lt_of hR
  have hlow := h.low
  have hsz := h.but.size
  refine ⟨b2.heap h.head ?_, b2.heap h.node ?_, h.used.but b2 ?_, ?_, fun j hj => ?_, fun a b ha hb hab => ?_, hlow, ?_⟩
  · simp only [List.mem_singleton]; exact ne_type hP hR (by decide)
  · simp only [List.mem_singleton]; exact ne_type hM hR (by decide)
  · simp only [List.mem_singleton]; exact ne_type hU hR (by decide)
  · refine ⟨_, heap_setC (b1.heap hR (by simp)), by simp [hN], fun j hj => ?_⟩
    show _ = some (Value.slice (some ⟨if j = i then wr.heap.size else g j, 0, none⟩) V V)
    by_cases e : j = i
    · subst e
      rw [if_pos rfl]
      simp [hN, hi]
    · rw [if_neg e, ← hC j (by omega)]
      simp [Array.getElem?_setIfInBounds_ne (Ne.symm e)]
  · show _ = _ ∧ _ ≤ (if j = i then wr.heap.size else g j)
    by_cases e : j = i
    · subst e
      rw [if_pos rfl, heap_setN (by omega), al_at, made_u8s]
      exact ⟨rfl, hsz⟩
    · rw [if_neg e]
      obtain ⟨r1, r2⟩ := h.row j (by omega)
      exact ⟨b2.heap r1 (by simp only [List.mem_singleton]; exact ne_type r1 hR (by decide)), r2⟩
  · by_cases ea : a = i
    · by_cases eb : b = i
      · omega
      · rw [if_pos ea, if_neg eb] at hab
        have := lt_of (h.row b (by omega)).1
        omega
    · by_cases eb : b = i
      · rw [if_neg ea, if_pos eb] at hab
        have := lt_of (h.row a (by omega)).1
        omega
      · rw [if_neg ea, if_neg eb] at hab
        exact h.inj a b (by omega) (by omega) hab
  · exact (h.but.trans b2 (by simp only [List.mem_singleton]; rintro x rfl; exact .inr hlow.2.2.2))
theorem NewT.drew {W wr : World} {P root U Rm : Nat} {g : Nat → Nat} {K V N i : Nat} (h : NewT W wr P root U Rm g K V N i) : NewT W wr.drew P root U Rm g K V N i := ⟨h.head, h.node, h.used, h.room, h.row, h.inj, h.low, h.but.drew⟩
/-- What region 6 lays, in any order. -/
theorem newT_start {W w6 : World} {P root U Rm K V N : Nat} (hP : w6.heap[P]? = some (.cells #[.int .u8 4, .int .i64 K, .int .i64 V, .int .i64 N, .pointer (some ⟨root, 0, none⟩), .slice (some ⟨U, 0, none⟩) N N, .slice (some ⟨Rm, 0, none⟩) N N] 59))
    (hM : w6.heap[root]? = some (.cells #[.pointer none, .pointer none, .pointer none] 67)) (hU : w6.heap[U]? = some (.cells (madeCells #[.bool false] N) 4)) (hR : w6.heap[Rm]? = some (.cells (madeCells #[.slice none 0 0] N) 26)) (hl : W.heap.size ≤ P ∧ W.heap.size ≤ root ∧ W.heap.size ≤ U ∧ W.heap.size ≤ Rm) (hb : But [] W w6) :
    NewT W w6 P root U Rm (fun _ => 0) K V N 0 :=
  ⟨hP, hM, ⟨_, hU, by simp [madeCells], fun i hi => by
    rw [← Array.getElem?_toList, toList_madeCells_one, List.getElem?_replicate, if_pos hi]⟩, ⟨_, hR, by simp [madeCells], fun j hj => absurd hj (by omega)⟩, fun j hj => absurd hj (by omega), fun a b ha => absurd ha (by omega), hl, hb⟩
set_option maxRecDepth 100000 in
set_option maxHeartbeats 4000000 in
theorem newTrie (K V N : Nat) (w : World) (hE : specE 4 K V N = 0) :
    Calls Try.prog 9 #[.agg #[.int .u8 4, .int .i64 K, .int .i64 V, .int .i64 N]] w fun e w' => ∃ P root U Rm g, e = .returned (.tuple #[.pointer (some ⟨P, 0, none⟩), .int .i64 0]) ∧ (∃ w1, w.heap.size ≤ w1.heap.size ∧ NewT w1 w' P root U Rm g K V N N) ∧ But [] w w' := by
  obtain ⟨hK, hV, hN⟩ := specE_trie hE
  obtain ⟨i0, hi, hz0, hz1, hz2⟩ := info_parts (show (Try.prog.info? 26).map (fun i => (i.zero, i.size, i.bytes)) = some (some (.slice none 0 0), 1, 24) by kernel_rfl)
  obtain ⟨j0, ki, kz0, kz1, kz2⟩ := info_parts (show (Try.prog.info? 5).map (fun i => (i.zero, i.size, i.bytes)) = some (some (.int .u8 0), 1, 1) by kernel_rfl)
  obtain ⟨m0, mi, mz0, mz1, mz2⟩ := info_parts (show (Try.prog.info? 4).map (fun i => (i.zero, i.size, i.bytes)) = some (some (.bool false), 1, 1) by kernel_rfl)
  have hmV : ∀ w, (Instr.makeSlice 26 (.int .i64 (V : Int)) (.int .i64 (V : Int))).run Try.prog w = .ok (.slice (some ⟨w.heap.size, 0, none⟩) V V) (w.alloc (.cells (madeCells #[.int .u8 0] V) 5)) := fun w => by
    have h := run_make (P := Try.prog) w 26 5 j0 (.int .u8 0) Try.underlying26 ki kz0 .i64 .i64 (V : Int) (V : Int) (by omega) (by omega) (by rw [kz2]; omega) (by omega)
    rw [h, kz1]
    simp only [Int.toNat_natCast, Nat.mul_one]
    rfl
  have hmU : ∀ w, (Instr.makeSlice 41 (.int .i64 (N : Int)) (.int .i64 (N : Int))).run Try.prog w = .ok (.slice (some ⟨w.heap.size, 0, none⟩) N N) (w.alloc (.cells (madeCells #[.bool false] N) 4)) := fun w => by
    have h := run_make (P := Try.prog) w 41 4 m0 (.bool false) Try.underlying41 mi mz0 .i64 .i64 (N : Int) (N : Int) (by omega) (by omega) (by rw [mz2]; omega) (by omega)
    rw [h, mz1]
    simp only [Int.toNat_natCast, Nat.mul_one]
    rfl
  have hmR : ∀ w, (Instr.makeSlice 39 (.int .i64 (N : Int)) (.int .i64 (N : Int))).run Try.prog w = .ok (.slice (some ⟨w.heap.size, 0, none⟩) N N) (w.alloc (.cells (madeCells #[.slice none 0 0] N) 26)) := fun w => by
    have h := run_make (P := Try.prog) w 39 26 i0 (.slice none 0 0) Try.underlying39 hi hz0 .i64 .i64 (N : Int) (N : Int) (by omega) (by omega) (by rw [hz2]; omega) (by omega)
    rw [h, hz1]
    simp only [Int.toNat_natCast, Nat.mul_one]
    rfl
  have hb1 : But [] w (w.alloc (.cells #[.int .u8 4, .int .i64 K, .int .i64 V, .int .i64 N] 24)) := (But.refl [] w).alloc _
  have ha := al_at w (.cells #[.int .u8 4, .int .i64 K, .int .i64 V, .int .i64 N] 24)
  have HE := Lib.hid hE
  have HB1 := Lib.hid hb1
  have HAA := Lib.hid ha
  have HN4 : Hid (N ≤ 1024) := Lib.hid (by omega)
  have HN5 : Hid (1 ≤ N ∧ N ≤ 1048576 ∧ K ≤ 1048576 ∧ V ≤ 1048576) := Lib.hid (by omega)
  have HNUM : Hid ((5 ≤ K ∧ K ≤ 36) ∧ (1 ≤ V ∧ V ≤ 1024) ∧ (1 ≤ N ∧ N ≤ 1024)) := Lib.hid (by omega)
  clear hE hb1 ha hi hz0 hz1 hz2 ki kz0 kz1 kz2 mi mz0 mz1 mz2 hK hV hN
  go_enter Try.func9, Try.ntmps9
  go_wp2_with fail
  refine (calls_val (specAny 4 K V N _ rfl) (v' := .int .i64 0) (by rw [HE.out])).mono ?_
  rintro e w1 ⟨rfl, hb⟩
  have hh := hb.heap HAA.out (by simp)
  have c0 : w1.cell? ⟨w.heap.size, 0, none⟩ = some (.int .u8 4) := cl_of hh 0
  have c1 : w1.cell? ⟨w.heap.size, 1, none⟩ = some (.int .i64 K) := cl_of hh 1
  have c2 : w1.cell? ⟨w.heap.size, 2, none⟩ = some (.int .i64 V) := cl_of hh 2
  have c3 : w1.cell? ⟨w.heap.size, 3, none⟩ = some (.int .i64 N) := cl_of hh 3
  have HK : Hid (∀ w', But [] w1 w' → w'.cell? ⟨w.heap.size, 0, none⟩ = some (.int .u8 4) ∧ w'.cell? ⟨w.heap.size, 1, none⟩ = some (.int .i64 K) ∧ w'.cell? ⟨w.heap.size, 2, none⟩ = some (.int .i64 V) ∧ w'.cell? ⟨w.heap.size, 3, none⟩ = some (.int .i64 N)) := Lib.hid fun w' h => by
    have h9 := h.heap hh (by simp)
    exact ⟨cl_of h9 0, cl_of h9 1, cl_of h9 2, cl_of h9 3⟩
  have HH := Lib.hid hh
  have HB := Lib.hid (HB1.out.trans hb (by simp))
  clear hb hh
  have HZ : Hid (w.heap.size ≤ w1.heap.size) := Lib.hid HB.out.size
  go_upto_region 6 with fail
  go_cut [5] (fun q wx => ∃ P root U Rm : Nat, q = .pointer (some ⟨P, 0, none⟩) ∧ NewT w1 wx P root U Rm (fun _ => 0) K V N 0)
  case first =>
    go_region_held3 (fun w' => w'.cell? ⟨w.heap.size, 0, none⟩ = some (.int .u8 4) ∧ w'.cell? ⟨w.heap.size, 1, none⟩ = some (.int .i64 K) ∧ w'.cell? ⟨w.heap.size, 2, none⟩ = some (.int .i64 V) ∧ w'.cell? ⟨w.heap.size, 3, none⟩ = some (.int .i64 N)) (exact HK.out _ (by repeat (first | exact But.refl _ _ | refine But.drew ?_ | refine But.alloc ?_ _))) (fail)
    all_goals
      go_wp2_with fail
      go_meet
      refine ⟨_, _, _, _, rfl, newT_start (al_eq _ _ _ (by simp only [size_alloc])) ?_ ?_ ?_ ?_ ?_⟩
      · repeat (first | exact al_eq _ _ _ (by simp only [size_alloc]) | refine al_keep ?_ _)
      · repeat (first | exact al_eq _ _ _ (by simp only [size_alloc]) | refine al_keep ?_ _)
      · repeat (first | exact al_eq _ _ _ (by simp only [size_alloc]) | refine al_keep ?_ _)
      · refine ⟨?_, ?_, ?_, ?_⟩ <;> first | exact Nat.le_refl _ | exact Nat.le_succ _ | exact Nat.le_add_right_of_le (Nat.le_succ _) | exact Nat.le_add_right_of_le (Nat.le_add_right_of_le (Nat.le_succ _))
      · exact ((((((But.refl [] w1).alloc _).alloc _).alloc _).alloc _)).drew
  case rest =>
    obtain ⟨P, root, U, Rm, rfl, hL⟩ := hcut
    have HL := Lib.hid hL
    have p10 : _ = some (Value.slice (some ⟨Rm, 0, none⟩) N N) := cl_of hL.head 6
    clear hL
    go_wp2_with fail
    go_loopw [33] (fun i wr => ∃ (k : Nat) (g : Nat → Nat), k ≤ N ∧ i = .int .i64 k ∧ NewT w1 wr P root U Rm g K V N k) (fun i _ => N - (intOf i).toNat)
    case atStart => exact ⟨0, _, Nat.zero_le _, rfl, HL.out⟩
    case round =>
      obtain ⟨k, g, hk, rfl, hN⟩ := hrel
      have HN := Lib.hid hN
      have q10 : wr.cell? ⟨P, 6, none⟩ = some (.slice (some ⟨Rm, 0, none⟩) N N) := cl_of hN.head 6
      clear hN
      by_cases hkn : k < N
      · have hlt : (k : Int) < N := num_lt hkn
        have HS : Hid (∀ w', But [Rm] wr w' → w'.cell? ⟨P, 6, none⟩ = some (.slice (some ⟨Rm, 0, none⟩) N N) ∧ w'.cell? ⟨w.heap.size, 2, none⟩ = some (.int .i64 V)) := Lib.hid (HN.out.box HH.out)
        obtain ⟨C, hR, hCN⟩ := HN.out.roomAt
        have e2 := (HS.out wr (But.refl _ _)).2
        have HR : Hid (∀ w', But [] wr w' → (∃ u, w'.cell? ⟨Rm, k, none⟩ = some u) ∧ w'.frozen? ⟨Rm, k, none⟩ = false) := Lib.hid fun w' hb => by
          have h9 : Cell1 w' Rm k := ⟨C, _, hb.heap hR (by simp), by rw [hCN]; exact hkn⟩
          exact ⟨h9.cell, h9.frozen⟩
        have HCO := Lib.hid (show C.size = N from hCN)
        obtain ⟨u, r1⟩ := (HR.out _ ((But.refl [] wr).alloc (.cells (madeCells #[.int .u8 0] V) 5))).1
        have r2 := (HR.out _ ((But.refl [] wr).alloc (.cells (madeCells #[.int .u8 0] V) 5))).2
        clear hR hCN
        go_wp2_with fail
        go_region_held3 (fun w' => w'.cell? ⟨P, 6, none⟩ = some (.slice (some ⟨Rm, 0, none⟩) N N) ∧ w'.cell? ⟨w.heap.size, 2, none⟩ = some (.int .i64 V)) (exact HS.out _ (by repeat (first | exact But.refl _ _ | refine But.drew ?_ | refine But.alloc ?_ _ | refine But.setCell ?_ (.inl (by simp)) _))) (fail)
        go_wp2_with fail
        exact ⟨⟨k + 1, _, hkn, (round_num hkn HN4.out).1, (HN.out.step hkn).drew⟩, (round_num hkn HN4.out).2⟩
      · have hge : ¬ (k : Int) < N := num_ge hkn
        obtain rfl : k = N := num_eq hk hkn
        go_wp2_with fail
        go_ret2
        exact ⟨_, rfl, ⟨_, _, _, _, w1, HZ.out, HN.out⟩, HB.out.trans HN.out.but (by simp)⟩
end Go.Proofs.Ytpoinhfkgnkedaa.M
