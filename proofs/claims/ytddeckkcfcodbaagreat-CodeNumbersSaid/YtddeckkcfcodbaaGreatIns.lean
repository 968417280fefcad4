/-
  Plain: rows of slots of one's own; the slots that bytes are.
-/
import Derived.Test.YtddeckkcfcodbaaGreatPut
import Derived.OwnWalk
import Derived.Laws.AppendOwn
namespace Go.Proofs.YtddeckkcfcodbaaGreat.M
open Go.RowKit Go.Shelf
set_option linter.unusedVariables false
set_option linter.unusedSectionVars false
set_option linter.unusedSimpArgs false
theorem flat_cellsI : ∀ (l : List Ins) (i j : Nat) (x : Ins), l[i]? = some x → j < 5 → (l.flatMap Ins.cells)[i * 5 + j]? = x.cells[j]?
  | [], i, j, x, h, _ => by simp at h
  | y :: l, 0, j, x, h, hj => by
    simp only [List.getElem?_cons_zero, Option.some.injEq] at h
    subst h
    rw [List.flatMap_cons, Nat.zero_mul, Nat.zero_add, List.getElem?_append_left (by simpa [Ins.cells] using hj)]
  | y :: l, i + 1, j, x, h, hj => by
    simp only [List.getElem?_cons_succ] at h
    have hl : y.cells.length = 5 := rfl
    rw [List.flatMap_cons, List.getElem?_append_right (by omega), show (i + 1) * 5 + j - y.cells.length = i * 5 + j by omega]
    exact flat_cellsI l i j x h hj
theorem flat_lenI (l : List Ins) : (l.flatMap Ins.cells).length = l.length * 5 := by
  induction l with
  | nil => rfl
  | cons x l ih => rw [List.flatMap_cons, List.length_append, ih, List.length_cons]; have : x.cells.length = 5 := rfl; omega
theorem flat_oneI (l : List Ins) : ∀ u ∈ l.flatMap Ins.cells, u.oneCell' = true := fun u hu => by
  obtain ⟨x, _, hu⟩ := List.mem_flatMap.1 hu
  simp only [Ins.cells, List.mem_cons, List.not_mem_nil, or_false] at hu
  rcases hu with rfl | rfl | rfl | rfl | rfl <;> rfl
/-- Slots in a row of one's own. -/
def RowI (B : Nat) (w : World) (v : Value) (l : List Ins) : Prop := w.ownsRow B 27 5 v l.length (l.flatMap Ins.cells)
theorem RowI.nil (B : Nat) (w : World) : RowI B w (.slice none 0 0) [] := ⟨rfl, .inl ⟨rfl, rfl⟩⟩
theorem RowI.form {B : Nat} {w : World} {v : Value} {l : List Ins} (h : RowI B w v l) : ∃ a c, v = .slice a l.length c := row_form h
theorem RowI.but {w w' : World} {B : Nat} {v : Value} {l : List Ins} {L : List Nat} (h : RowI B w v l) (hb : But L w w') (hn : ∀ b, v.ownBlock = some b → b ∉ L) : RowI B w' v l := ownsRow_but h hb hn
theorem RowI.tag {w : World} {B : Nat} {v : Value} {l : List Ins} (h : RowI B w v l) {b : Nat} (hb : v.ownBlock = some b) : B ≤ b ∧ ∃ cur, w.heap[b]? = some (.cells cur 27) := ownsRow_tag h hb
theorem RowI.lt {w : World} {B : Nat} {v : Value} {l : List Ins} (h : RowI B w v l) {b : Nat} (hb : v.ownBlock = some b) : b < w.heap.size := by
  obtain ⟨_, cur, hc⟩ := h.tag hb
  exact lt_of hc
theorem RowI.mono {w : World} {B C : Nat} {v : Value} {l : List Ins} (h : RowI B w v l) (hc : C ≤ B) : RowI C w v l :=
  ⟨h.1, h.2.imp id fun ⟨g, cap, cur, h1, h2, h3⟩ => ⟨g, cap, cur, h1, Nat.le_trans hc h2, h3⟩⟩
/-- Slots in whatever lies in one row of cells. -/
theorem seesI_cells {w : World} {g n c : Nat} {l : List Ins} (hn : n = l.length) (h : ∀ (j : Nat) (u : Value), (l.flatMap Ins.cells)[j]? = some u → w.cell? ⟨g, j, none⟩ = some u) : SeesI w (.slice (some ⟨g, 0, none⟩) n c) l := by
  subst hn
  refine ⟨_, c, rfl, fun i x hx => ⟨g, 0, rfl, fun j u hj => ?_⟩⟩
  have hj5 : j < 5 := (List.getElem?_eq_some_iff.1 hj).1
  rw [← flat_cellsI l i j x hx hj5] at hj
  have := h _ _ hj
  rw [Nat.zero_add]
  exact this
theorem RowI.cells {w : World} {B : Nat} {g n c : Nat} {l : List Ins} (h : RowI B w (.slice (some ⟨g, 0, none⟩) n c) l) : ∀ (j : Nat) (u : Value), (l.flatMap Ins.cells)[j]? = some u → w.cell? ⟨g, j, none⟩ = some u := fun j u hj => by
  have := World.ownsRow.cells h (g := g) rfl j u hj
  rw [add_at, Nat.zero_add] at this
  exact this
theorem RowI.sees {w : World} {B : Nat} {v : Value} {l : List Ins} (h : RowI B w v l) : SeesI w v l := by
  obtain ⟨a, c, rfl⟩ := h.form
  rcases id h with ⟨_, ⟨h2, h0⟩ | ⟨g, cap, cur, h2, _⟩⟩
  · obtain rfl : l = [] := List.eq_nil_of_length_eq_zero h0
    exact ⟨a, c, rfl, fun i x hx => by simp at hx⟩
  · simp only [Value.slice.injEq] at h2
    obtain ⟨rfl, _, rfl⟩ := h2
    exact seesI_cells rfl h.cells
/-- The slot that eight bytes are. -/
def decI (b : Nat → Int) : Ins := ⟨b 0, b 1 % 16, b 1 / 16, IntKind.i16.wrap (b 3 * 256 + b 2), IntKind.i32.wrap (((b 7 * 256 + b 6) * 256 + b 5) * 256 + b 4)⟩
def atI (bs : List Int) (i j : Nat) : Int := bs.getD (8 * i + j) 0
def decL (bs : List Int) (n : Nat) : List Ins := (List.range n).map fun i => decI (atI bs i)
theorem decL_succ (bs : List Int) (n : Nat) : decL bs (n + 1) = decL bs n ++ [decI (atI bs n)] := by simp [decL, List.range_succ]
theorem decL_len (bs : List Int) (n : Nat) : (decL bs n).length = n := by simp [decL]
def ByteL (l : List Int) : Prop := ∀ x ∈ l, 0 ≤ x ∧ x ≤ 255
theorem atI_byte {bs : List Int} (h : ByteL bs) (i j : Nat) : 0 ≤ atI bs i j ∧ atI bs i j ≤ 255 := by
  unfold atI
  rw [List.getD_eq_getElem?_getD]
  cases hx : bs[8 * i + j]? with
  | none => exact ⟨Int.le_refl _, by decide⟩
  | some x => exact h x (List.mem_of_getElem? hx)
theorem decI_ok {b : Nat → Int} (h : ∀ j, 0 ≤ b j ∧ b j ≤ 255) : InsOk (decI b) ∧ Good (decI b) := by
  have h0 := h 0
  have h1 := h 1
  refine ⟨⟨h0, ?_, ?_, ?_, ?_⟩, ?_, ?_⟩ <;> simp only [decI, wrap_i16, IntKind.wrap_i32] <;> omega
theorem leB2 (n : Int) : leB n 2 = [n % 256, n / 256 % 256] := by simp [leB, byteAt, List.range_succ]
theorem leB4 (n : Int) : leB n 4 = [n % 256, n / 256 % 256, n / 65536 % 256, n / 16777216 % 256] := by simp [leB, byteAt, List.range_succ]
theorem enc_eq (x : Ins) : enc x = [x.op, x.src * 16 + x.dst, x.off % 256, x.off / 256 % 256, x.imm % 256, x.imm / 256 % 256, x.imm / 65536 % 256, x.imm / 16777216 % 256] := by
  unfold enc; rw [leB2, leB4]; rfl
/-- There .. -/
theorem enc_dec {b : Nat → Int} (h : ∀ j, 0 ≤ b j ∧ b j ≤ 255) : enc (decI b) = [b 0, b 1, b 2, b 3, b 4, b 5, b 6, b 7] := by
  have h1 := h 1
  have h2 := h 2
  have h3 := h 3
  have h4 := h 4
  have h5 := h 5
  have h6 := h 6
  have h7 := h 7
  rw [enc_eq]
  simp only [decI, wrap_i16, IntKind.wrap_i32]
  congr 1
  congr 1
  · omega
  congr 1
  · omega
  congr 1
  · omega
  congr 1
  · omega
  congr 1
  · omega
  congr 1
  · omega
  congr 1
  · omega
/-- .. and back. -/
theorem dec_enc {x : Ins} (h : InsOk x) (hg : Good x) : decI (fun j => (enc x).getD j 0) = x := by
  obtain ⟨op, dst, src, off, imm⟩ := x
  obtain ⟨h1, h2, h3, h4, h5⟩ := h
  obtain ⟨g1, g2⟩ := hg
  simp only at h1 h2 h3 h4 h5 g1 g2
  rw [enc_eq]
  simp only [decI, wrap_i16, IntKind.wrap_i32, List.getD_cons_zero, List.getD_cons_succ, Ins.mk.injEq, true_and]
  refine ⟨?_, ?_, ?_, ?_⟩ <;> omega
theorem enc_all : ∀ (l : List Ins), (l.map enc).flatten.length = 8 * l.length
  | [] => rfl
  | x :: l => by rw [List.map_cons, List.flatten_cons, List.length_append, enc_all l, enc_len, List.length_cons]; omega
theorem enc_at : ∀ (l : List Ins) (i j : Nat) (x : Ins), l[i]? = some x → j < 8 → (l.map enc).flatten.getD (8 * i + j) 0 = (enc x).getD j 0
  | [], i, j, x, h, _ => by simp at h
  | y :: l, 0, j, x, h, hj => by
    simp only [List.getElem?_cons_zero, Option.some.injEq] at h
    subst h
    rw [List.map_cons, List.flatten_cons, Nat.mul_zero, Nat.zero_add, List.getD_eq_getElem?_getD, List.getElem?_append_left (by rw [enc_len]; exact hj), ← List.getD_eq_getElem?_getD]
  | y :: l, i + 1, j, x, h, hj => by
    simp only [List.getElem?_cons_succ] at h
    rw [List.map_cons, List.flatten_cons, List.getD_eq_getElem?_getD, List.getElem?_append_right (by rw [enc_len]; omega), show 8 * (i + 1) + j - (enc y).length = 8 * i + j by rw [enc_len]; omega, ← List.getD_eq_getElem?_getD]
    exact enc_at l i j x h hj
/-- A program whose slots are right is got of its bytes as it was. -/
theorem dec_all {l : List Ins} (hok : ∀ x ∈ l, InsOk x) (hg : ∀ x ∈ l, Good x) : decL (l.map enc).flatten l.length = l := by
  refine List.ext_getElem? fun i => ?_
  unfold decL
  rw [List.getElem?_map]
  by_cases hi : i < l.length
  · obtain ⟨x, hx⟩ : ∃ x, l[i]? = some x := ⟨_, List.getElem?_eq_getElem hi⟩
    have hm := List.mem_of_getElem? hx
    rw [List.getElem?_range hi, hx]
    simp only [Option.map_some, Option.some.injEq]
    rw [← dec_enc (hok x hm) (hg x hm)]
    unfold decI atI
    simp only [enc_at l i _ x hx (show 0 < 8 by decide), enc_at l i _ x hx (show 1 < 8 by decide), enc_at l i _ x hx (show 2 < 8 by decide), enc_at l i _ x hx (show 3 < 8 by decide), enc_at l i _ x hx (show 4 < 8 by decide), enc_at l i _ x hx (show 5 < 8 by decide), enc_at l i _ x hx (show 6 < 8 by decide), enc_at l i _ x hx (show 7 < 8 by decide)]
  · rw [List.getElem?_eq_none (by simpa using hi), List.getElem?_eq_none (by omega)]
    rfl
/-- Each row of so many bytes is one program's. -/
theorem enc_decL {bs : List Int} (h : ByteL bs) : ∀ n, 8 * n ≤ bs.length → ((decL bs n).map enc).flatten = bs.take (8 * n)
  | 0, _ => by simp [decL]
  | n + 1, hn => by
    rw [decL_succ, List.map_append, List.flatten_append, enc_decL h n (by omega)]
    simp only [List.map_cons, List.map_nil, List.flatten_cons, List.flatten_nil, List.append_nil]
    rw [enc_dec (atI_byte h n)]
    have e : ∀ k, 8 * n + k < bs.length → bs.take (8 * n + k + 1) = bs.take (8 * n + k) ++ [atI bs n k] := fun k hk => by
      rw [List.take_add_one, List.getElem?_eq_getElem hk]
      unfold atI
      rw [List.getD_eq_getElem?_getD, List.getElem?_eq_getElem hk]
      rfl
    rw [show 8 * (n + 1) = 8 * n + 7 + 1 from by omega, e 7 (by omega), e 6 (by omega), e 5 (by omega), e 4 (by omega), e 3 (by omega), e 2 (by omega), e 1 (by omega), e 0 (by omega)]
    simp
def getErr (n : Nat) : Int := if 32768 < n then 3 else if n % 8 = 0 then 0 else 4
def getRow (bs : List Int) : List Ins := if getErr bs.length = 0 then decL bs (bs.length / 8) else []
theorem getErr_zero {n : Nat} (h : getErr n = 0) : n ≤ 32768 ∧ n % 8 = 0 := by
  unfold getErr at h
  split at h
  · omega
  · split at h
    · omega
    · omega
end Go.Proofs.YtddeckkcfcodbaaGreat.M
