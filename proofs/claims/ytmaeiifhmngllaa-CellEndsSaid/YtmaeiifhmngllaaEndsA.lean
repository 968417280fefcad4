/-
  CellEnds: its lists, plain; an append of a deed to three.
-/
import Derived.Test.YtmaeiifhmngllaaDoes
namespace Go.Proofs.Ytmaeiifhmngllaa.M
open Go.RowKit
set_option linter.unusedVariables false
set_option linter.unusedSectionVars false
set_option linter.unusedSimpArgs false
def offsL : List Int := [-9223372036854775808, -1, 0, 1, 4, 7, 8, 503, 504, 505, 508, 511, 512, 513, 9223372036854775807]
def sizesL : List Int := [-9223372036854775808, -1, 0, 1, 2, 3, 4, 8, 9, 511, 512, 513, 9223372036854775807]
def cellsL : List CV := [⟨0, 0, 0, 0⟩, ⟨1, 18446744073709551615, 0, 0⟩, ⟨1, 0, 0, 1⟩, ⟨2, 0, 1, -5⟩, ⟨2, 1, 0, 0⟩, ⟨3, 0, 2, 0⟩, ⟨3, 0, 0, 1⟩, ⟨4, 0, 0, 0⟩, ⟨0, 1, 0, 0⟩]
theorem offs_wf : ∀ x ∈ offsL, (Lit.int .i64 x).wf = true := by decide +kernel
theorem sizes_wf : ∀ x ∈ sizesL, (Lit.int .i64 x).wf = true := by decide +kernel
theorem cells_wf : ∀ x ∈ cellsL, CellWf x := by
  intro x hx
  unfold CellWf
  revert x
  decide +kernel
theorem zero_wf : (Lit.int .i64 0).wf = true := by decide +kernel
theorem c0_wf : CellWf c0 := by unfold CellWf; decide +kernel
/-- What the three lists lie in. -/
structure EndsI (BO BS BC : Nat) (W : World) : Prop where
  offs : W.heap[BO]? = some (.cells (offsL.map (.int .i64)).toArray 2)
  sizes : W.heap[BS]? = some (.cells (sizesL.map (.int .i64)).toArray 3)
  cells : W.heap[BC]? = some (.cells (cellsL.flatMap fun c => [.int .u8 c.k, .int .u64 c.w, .int .i64 c.r, .int .i64 c.o]).toArray 33)
theorem EndsI.but {BO BS BC : Nat} {W W' : World} (h : EndsI BO BS BC W) (hb : But [] W W') : EndsI BO BS BC W' :=
  ⟨hb.heap h.offs (by simp), hb.heap h.sizes (by simp), hb.heap h.cells (by simp)⟩
theorem EndsI.off {BO BS BC : Nat} {W : World} (h : EndsI BO BS BC W) {i : Nat} {x : Int} (hx : offsL[i]? = some x) : W.cell? ⟨BO, i, none⟩ = some (.int .i64 x) := by
  rw [cl_of h.offs, List.getElem?_toArray, List.getElem?_map, hx]
  rfl
theorem EndsI.size {BO BS BC : Nat} {W : World} (h : EndsI BO BS BC W) {i : Nat} {x : Int} (hx : sizesL[i]? = some x) : W.cell? ⟨BS, i, none⟩ = some (.int .i64 x) := by
  rw [cl_of h.sizes, List.getElem?_toArray, List.getElem?_map, hx]
  rfl
theorem flat4 (l : List CV) : ∀ (n : Nat) (c : CV), l[n]? = some c → ∀ q, q < 4 → (l.flatMap fun c => [Value.int .u8 c.k, .int .u64 c.w, .int .i64 c.r, .int .i64 c.o])[n * 4 + q]? = [Value.int .u8 c.k, .int .u64 c.w, .int .i64 c.r, .int .i64 c.o][q]? := by
  induction l with
  | nil => intro n c h; cases h
  | cons d l ih =>
    intro n c h q hq
    cases n with
    | zero =>
      simp only [List.getElem?_cons_zero, Option.some.injEq] at h
      subst h
      rw [List.flatMap_cons, List.getElem?_append_left (by simp; omega), Nat.zero_mul, Nat.zero_add]
    | succ n =>
      simp only [List.getElem?_cons_succ] at h
      rw [List.flatMap_cons, List.getElem?_append_right (by simp; omega), ← ih n c h q hq]
      congr 1
      simp
      omega
theorem EndsI.cell {BO BS BC : Nat} {W : World} (h : EndsI BO BS BC W) {n : Nat} {c : CV} (hx : cellsL[n]? = some c) : W.cell? ⟨BC, n * 4, none⟩ = some (.int .u8 c.k) ∧ W.cell? ⟨BC, n * 4 + 1, none⟩ = some (.int .u64 c.w) ∧ W.cell? ⟨BC, n * 4 + 2, none⟩ = some (.int .i64 c.r) ∧ W.cell? ⟨BC, n * 4 + 3, none⟩ = some (.int .i64 c.o) := by
  have k : ∀ q, q < 4 → W.cell? ⟨BC, n * 4 + q, none⟩ = [Value.int .u8 c.k, .int .u64 c.w, .int .i64 c.r, .int .i64 c.o][q]? := fun q hq => by
    rw [cl_of h.cells, List.getElem?_toArray]
    exact flat4 cellsL n c hx q hq
  exact ⟨k 0 (by omega), k 1 (by omega), k 2 (by omega), k 3 (by omega)⟩
/-- A deed of one's own is right. -/
def GoodD (w : World) (d : Deed) : Prop := ((Lit.int .i64 d.kind).wf = true ∧ (Lit.int .i64 d.off).wf = true ∧ (Lit.int .i64 d.size).wf = true ∧ CellWf d.cell) ∧ Sees w d.b (u8s d.bs) ∧ ByteL d.bs ∧ d.bs.length ≤ 140737488351232
theorem sees_deeds {w : World} {g cap : Nat} {cur : Array Value} {T : TypeId} {l : List Deed} (h : w.heap[g]? = some (.cells cur T)) (hc : ∀ (i : Nat) (d : Deed), l[i]? = some d → ∀ (q : Nat) (u : Value), (deedC d)[q]? = some u → cur[i * 8 + q]? = some u) (hg : ∀ d ∈ l, GoodD w d) : SeesDeeds w (.slice (some ⟨g, 0, none⟩) l.length cap) l := by
  refine ⟨some ⟨g, 0, none⟩, cap, rfl, fun i d hd => ⟨g, 0, rfl, ?_, hg d (List.mem_of_getElem? hd)⟩⟩
  have k : ∀ (q : Nat) (u : Value), (deedC d)[q]? = some u → w.cell? ⟨g, 0 + i * 8 + q, none⟩ = some u := fun q u hu => by
    rw [cl_of h, Nat.zero_add]
    exact hc i d hd q u hu
  exact ⟨k 0 _ rfl, k 1 _ rfl, k 2 _ rfl, k 3 _ rfl, k 4 _ rfl, k 5 _ rfl, k 6 _ rfl, k 7 _ rfl⟩
def d1 (x y : Int) (c : CV) : Deed := ⟨0, x, y, c, .slice none 0 0, []⟩
def d2 (x y : Int) : Deed := ⟨4, x, y, c0, .slice none 0 0, []⟩
def d3 (x y : Int) : Deed := ⟨6, x, y, c0, .slice none 0 0, []⟩
def d4 (x : Int) (b m : Nat) : Deed := ⟨7, x, 0, c0, .slice (some ⟨b, 0, none⟩) m m, List.replicate m 0⟩
theorem good_nil {w : World} {k x y : Int} {c : CV} (hk : (Lit.int .i64 k).wf = true) (hx : (Lit.int .i64 x).wf = true) (hy : (Lit.int .i64 y).wf = true) (hc : CellWf c) : GoodD w ⟨k, x, y, c, .slice none 0 0, []⟩ :=
  ⟨⟨hk, hx, hy, hc⟩, .inl ⟨rfl, rfl⟩, (fun x hx => by cases hx), Nat.zero_le _⟩
theorem GoodD.but {w w' : World} {d : Deed} (h : GoodD w d) (hb : But [] w w') : GoodD w' d := ⟨h.1, h.2.1.but hb (by simp), h.2.2⟩
theorem sees_made {w : World} {b m : Nat} {T : TypeId} (h : w.heap[b]? = some (.cells (madeCells #[.int .u8 0] m) T)) : Sees w (.slice (some ⟨b, 0, none⟩) m m) (u8s (List.replicate m 0)) := by
  refine .inr ⟨⟨b, 0, none⟩, m, by simp [u8s], by simp [u8s], fun j u hj => ?_⟩
  have hjl := (List.getElem?_eq_some_iff.1 hj).1
  rw [u8s_len, List.length_replicate] at hjl
  rw [add_at, Nat.zero_add, cl_of h, made_at8 hjl]
  unfold u8s at hj
  rw [List.getElem?_map, List.getElem?_replicate, if_pos hjl] at hj
  exact hj
theorem good4 {w : World} {x : Int} {b m : Nat} {T : TypeId} (hx : (Lit.int .i64 x).wf = true) (hm : m ≤ 1000) (h : w.heap[b]? = some (.cells (madeCells #[.int .u8 0] m) T)) : GoodD w (d4 x b m) :=
  ⟨⟨by show (Lit.int .i64 7).wf = true; decide +kernel, hx, zero_wf, c0_wf⟩, sees_made h, (fun y hy => by obtain rfl := List.eq_of_mem_replicate hy; omega), by show (List.replicate m (0 : Int)).length ≤ _; rw [List.length_replicate]; omega⟩
theorem three_at {x y : Int} {c : CV} : ∀ (i : Nat) (d : Deed), [d1 x y c, d2 x y, d3 x y][i]? = some d → ∀ (q : Nat) (u : Value), (deedC d)[q]? = some u → ((deedC (d1 x y c)).toList ++ (deedC (d2 x y)).toList ++ (deedC (d3 x y)).toList)[i * 8 + q]? = some u := by
  intro i d hd q u hu
  have hq : q < 8 := (Array.getElem?_eq_some_iff.1 hu).1
  match i, hd with
  | 0, hd =>
    cases hd
    rw [List.append_assoc, List.getElem?_append_left (by show 0 * 8 + q < 8; omega), Nat.zero_mul, Nat.zero_add]
    simpa using hu
  | 1, hd =>
    cases hd
    rw [List.append_assoc, List.getElem?_append_right (by show 8 ≤ 1 * 8 + q; omega), List.getElem?_append_left (by show 1 * 8 + q - 8 < 8; omega)]
    show (deedC (d2 x y)).toList[1 * 8 + q - 8]? = _
    rw [show 1 * 8 + q - 8 = q by omega]
    simpa using hu
  | 2, hd =>
    cases hd
    rw [List.append_assoc, List.getElem?_append_right (by show 8 ≤ 2 * 8 + q; omega), List.getElem?_append_right (by show 8 ≤ 2 * 8 + q - 8; omega)]
    show (deedC (d3 x y)).toList[2 * 8 + q - 8 - 8]? = _
    rw [show 2 * 8 + q - 8 - 8 = q by omega]
    simpa using hu
theorem four_at {x y : Int} {c : CV} {e : Deed} : ∀ (i : Nat) (d : Deed), [d1 x y c, d2 x y, d3 x y, e][i]? = some d → ∀ (q : Nat) (u : Value), (deedC d)[q]? = some u → (((deedC (d1 x y c)).toList ++ (deedC (d2 x y)).toList ++ (deedC (d3 x y)).toList) ++ (deedC e).toList)[i * 8 + q]? = some u := by
  intro i d hd q u hu
  have hq : q < 8 := (Array.getElem?_eq_some_iff.1 hu).1
  by_cases h3 : i < 3
  · rw [List.getElem?_append_left (by show i * 8 + q < 24; omega)]
    refine three_at i d ?_ q u hu
    match i, h3, hd with
    | 0, _, hd => exact hd
    | 1, _, hd => exact hd
    | 2, _, hd => exact hd
  · match i, h3, hd with
    | 3, _, hd =>
      cases hd
      rw [List.getElem?_append_right (by show 24 ≤ 3 * 8 + q; omega)]
      show (deedC e).toList[3 * 8 + q - 24]? = _
      rw [show 3 * 8 + q - 24 = q by omega]
      simpa using hu
section
variable {P : Program} {w : World}
theorem wpList_append_deed {ops : Array Oper} {rest : List Oper} {op : Oper} {a : Act} {Q : Exit → Act → World → Prop} (hgd : op.guard = none) (s x : Operand) (t e : TypeId)
    (ho : op.op = .call { callee := .builtin .append, args := #[s, x], argTypes := #[t, t] })
    (i : TypeInfo) (z : Value) (ht : P.underlying t = some (.slice e)) (hi : P.info? e = some i) (hz : i.zero = some z)
    (hsize : i.size = 8) (hby : i.bytes ≤ 1000) (g h : Nat) (L M : List Value) (hL : L.length = 24) (hM : M.length = 8) (hM1 : ∀ u ∈ M, u.oneCell' = true)
    (hs : a.eval s = .slice (some ⟨g, 0, none⟩) 3 3) (hx : a.eval x = .slice (some ⟨h, 0, none⟩) 1 1) (hg : w.heap[g]? = some (.cells L.toArray e)) (hh : w.heap[h]? = some (.cells M.toArray e))
    (hk : ∀ w' (G cap : Nat) (cur : Array Value), w'.heap[G]? = some (.cells cur e) → (∀ (j : Nat) (u : Value), (L ++ M)[j]? = some u → cur[j]? = some u) → But [] w w' → wpList P ops Q rest (a.put op.dst (.slice (some ⟨G, 0, none⟩) 4 cap)) w') :
    wpList P ops Q (op :: rest) a w := by
  refine wpList_plain hgd fun K hK => ?_
  have hsrc : Src P i.size t (.slice (some ⟨h, 0, none⟩) 1 1) 1 M w := by
    rw [hsize]
    exact Src.ofSlice w ht ⟨h, 0, none⟩ 1 1 M (by rw [hM]) (fun j u hj => by rw [add_at, Nat.zero_add, cl_of hh, List.getElem?_toArray]; exact hj) hM1
  have hold : (Builtin.firstCells i.size 3 (.slice (some ⟨g, 0, none⟩) 3 3)).run P w.drew = .ok L.toArray w.drew := run_firstCells_some w.drew i.size 3 ⟨g, 0, none⟩ 3 3 L (by rw [hsize, hL]) (fun j u hj => by
    rw [add_at, Nat.zero_add]
    show w.cell? _ = _
    rw [cl_of hg, List.getElem?_toArray]
    exact hj)
  have hrun := run_append_grow_src (P := P) w t t op.type e i z ht hi hz (some ⟨g, 0, none⟩) 3 3 L hold (.slice (some ⟨h, 0, none⟩) 1 1) 1 M hsrc (by omega) (by omega) (growslice_fits (by omega) (by have : (3 + 1) * i.bytes ≤ 4 * 1000 := Nat.mul_le_mul_left 4 hby; omega))
  unfold Oper.wp execOp
  simp only [ho, resolve, invoke, builtin, Sem.run_bind, Sem.run_pure, Result.andThen_ok, List.map_toArray, List.map_cons, List.map_nil, hs, hx, hrun]
  refine hK _ _ (hk _ _ _ _ Array.getElem?_push_size (fun j u hj => ?_) ((But.refl [] w).drew.alloc _))
  have hjl := (List.getElem?_eq_some_iff.1 hj).1
  rw [Array.getElem?_append_left (by simpa using hjl), List.getElem?_toArray]
  exact hj
theorem step_append_deed {ops : Array Oper} {op : Oper} {a : Act} {K : Act → World → Prop} {Q : Exit → Act → World → Prop} {E : Prop} (hgd : op.guard = none) (s x : Operand) (t e : TypeId)
    (ho : op.op = .call { callee := .builtin .append, args := #[s, x], argTypes := #[t, t] })
    (i : TypeInfo) (z : Value) (ht : P.underlying t = some (.slice e)) (hi : P.info? e = some i) (hz : i.zero = some z)
    (hsize : i.size = 8) (hby : i.bytes ≤ 1000) (g h : Nat) (L M : List Value) (hL : L.length = 24) (hM : M.length = 8) (hM1 : ∀ u ∈ M, u.oneCell' = true)
    (hs : a.eval s = .slice (some ⟨g, 0, none⟩) 3 3) (hx : a.eval x = .slice (some ⟨h, 0, none⟩) 1 1) (hg : w.heap[g]? = some (.cells L.toArray e)) (hh : w.heap[h]? = some (.cells M.toArray e))
    (hk : ∀ w' (G cap : Nat) (cur : Array Value), w'.heap[G]? = some (.cells cur e) → (∀ (j : Nat) (u : Value), (L ++ M)[j]? = some u → cur[j]? = some u) → But [] w w' → K (a.put op.dst (.slice (some ⟨G, 0, none⟩) 4 cap)) w') :
    if Region.wanted op (yielded ops a.tmps) = true then Oper.wp P op a w K Q else E := by
  have hw : Region.wanted op (yielded ops a.tmps) = true := by simp [Region.wanted, hgd]
  rw [if_pos hw]
  have hsrc : Src P i.size t (.slice (some ⟨h, 0, none⟩) 1 1) 1 M w := by
    rw [hsize]
    exact Src.ofSlice w ht ⟨h, 0, none⟩ 1 1 M (by rw [hM]) (fun j u hj => by rw [add_at, Nat.zero_add, cl_of hh, List.getElem?_toArray]; exact hj) hM1
  have hold : (Builtin.firstCells i.size 3 (.slice (some ⟨g, 0, none⟩) 3 3)).run P w.drew = .ok L.toArray w.drew := run_firstCells_some w.drew i.size 3 ⟨g, 0, none⟩ 3 3 L (by rw [hsize, hL]) (fun j u hj => by
    rw [add_at, Nat.zero_add]
    show w.cell? _ = _
    rw [cl_of hg, List.getElem?_toArray]
    exact hj)
  have hrun := run_append_grow_src (P := P) w t t op.type e i z ht hi hz (some ⟨g, 0, none⟩) 3 3 L hold (.slice (some ⟨h, 0, none⟩) 1 1) 1 M hsrc (by omega) (by omega) (growslice_fits (by omega) (by have : (3 + 1) * i.bytes ≤ 4 * 1000 := Nat.mul_le_mul_left 4 hby; omega))
  unfold Oper.wp
  simp only [execOp, ho, resolve, invoke, builtin, Sem.run_bind, Sem.run_pure, Result.andThen_ok, List.map_toArray, List.map_cons, List.map_nil, hs, hx, hrun]
  refine hk _ _ _ _ Array.getElem?_push_size (fun j u hj => ?_) ((But.refl [] w).drew.alloc _)
  have hjl := (List.getElem?_eq_some_iff.1 hj).1
  rw [Array.getElem?_append_left (by simpa using hjl), List.getElem?_toArray]
  exact hj
end
end Go.Proofs.Ytmaeiifhmngllaa.M
