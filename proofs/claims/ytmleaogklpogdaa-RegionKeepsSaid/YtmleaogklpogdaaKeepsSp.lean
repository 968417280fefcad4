/-
  Plain: the regions of 'RegionKeeps', as they lie. No program.
-/
import Derived.Test.YtmleaogklpogdaaAwake
import Derived.Test.YtmleaogklpogdaaOpen
namespace Go.Proofs.Ytmleaogklpogdaa.M
open Go.RowKit
set_option linter.unusedVariables false
set_option linter.unusedSectionVars false
set_option linter.unusedSimpArgs false
/-- Of so many rows, the parts: their numbers, bytes, kinds. -/
structure Shape (l : List Part) (n : Nat) (f : Nat → List Value) : Prop where
  len : l.length = n
  at_ : ∀ (i : Nat) (p : Part), l[i]? = some p → p.num = (i : Int) + 1 ∧ p.bs = f i ∧ p.kind = 1 + (i : Int) % 5
theorem Shape.nil (f : Nat → List Value) : Shape [] 0 f := ⟨rfl, fun i p h => by simp at h⟩
theorem Shape.snoc {l : List Part} {n : Nat} {f : Nat → List Value} (h : Shape l n f) (p : Part) (h1 : p.num = (n : Int) + 1) (h2 : p.bs = f n) (h3 : p.kind = 1 + (n : Int) % 5) : Shape (l ++ [p]) (n + 1) f := by
  refine ⟨by simp [h.len], fun i q hq => ?_⟩
  by_cases hi : i < l.length
  · rw [List.getElem?_append_left hi] at hq
    exact h.at_ i q hq
  · rw [List.getElem?_append_right (by omega)] at hq
    have h0 : i - l.length = 0 := by
      have := (List.getElem?_eq_some_iff.1 hq).1
      simp at this
      omega
    rw [h0] at hq
    obtain rfl : p = q := by simpa using hq
    obtain rfl : i = n := by have := h.len; omega
    exact ⟨h1, h2, h3⟩
theorem Shape.get {l : List Part} {n : Nat} {f : Nat → List Value} (h : Shape l n f) {i : Nat} (hi : i < n) : ∃ p, p ∈ l ∧ p.num = (i : Int) + 1 ∧ p.bs = f i ∧ p.kind = 1 + (i : Int) % 5 := by
  have hl : i < l.length := by have := h.len; omega
  exact ⟨l[i], List.getElem_mem hl, h.at_ i _ (List.getElem?_eq_getElem hl)⟩
theorem Shape.upd {l : List Part} {n : Nat} {f : Nat → List Value} (h : Shape l n f) (k : Nat) (m : Int) (hm : m = (k : Int) + 1) (bs : List Value) : Shape (upd l m bs) n (fun i => if i = k then bs else f i) := by
  subst hm
  refine ⟨by simp [M.upd, h.len], fun i q hq => ?_⟩
  simp only [M.upd, List.getElem?_map] at hq
  obtain ⟨p, hp, rfl⟩ := Option.map_eq_some_iff.1 hq
  obtain ⟨h1, h2, h3⟩ := h.at_ i p hp
  by_cases hik : i = k
  · subst hik
    simp [h1, h3]
  · have hne : ¬ (p.num = (k : Int) + 1) := by omega
    rw [if_neg hne, if_neg hik]
    exact ⟨h1, h2, h3⟩
theorem without_ne {l : List Part} {n : Int} : ∀ p ∈ without l n, p.num ≠ n := fun p hp => by
  simp only [without, List.mem_filter] at hp
  simpa using hp.2
/-- The rows, one by one. -/
def row (rows : List (List Value)) (k : Nat) : List Value := rows.getD k []
def tot (rows : List (List Value)) (k : Nat) : Nat := ((rows.take k).map List.length).sum
theorem tot_zero (rows : List (List Value)) : tot rows 0 = 0 := rfl
theorem tot_succ (rows : List (List Value)) (k : Nat) (hk : k < rows.length) : tot rows (k + 1) = tot rows k + (row rows k).length := by
  have e : row rows k = rows[k] := by unfold row; rw [List.getD_eq_getElem?_getD, List.getElem?_eq_getElem hk]; rfl
  rw [e]
  unfold tot
  rw [List.take_succ_eq_append_getElem hk, List.map_append, List.sum_append]
  simp only [List.map_cons, List.map_nil, List.sum_cons, List.sum_nil, Nat.add_zero]
theorem rows_at {w : World} {v : Value} {rows : List (List Value)} (h : SeesRows w v rows) : ∃ a c, v = .slice a rows.length c ∧ ∀ k, k < rows.length → ∃ ad a' c', a = some ad ∧ w.cell? (ad.add k) = some (.slice a' (row rows k).length c') ∧ Sees w (.slice a' (row rows k).length c') (row rows k) := by
  obtain ⟨vals, h1, h2, h3⟩ := h
  obtain ⟨a, c, rfl, hx⟩ := sees_shape h1
  refine ⟨a, c, by rw [h2], fun k hk => ?_⟩
  have hv : vals[k]? = some vals[k] := List.getElem?_eq_getElem (by omega)
  have hr : rows[k]? = some rows[k] := List.getElem?_eq_getElem hk
  obtain ⟨ad, rfl, hc⟩ := hx k _ hv
  have hs := h3 k _ _ hv hr
  have e : row rows k = rows[k] := by unfold row; rw [List.getD_eq_getElem?_getD, hr]; rfl
  obtain ⟨a', c', he, _⟩ := sees_shape hs
  rw [e]
  rw [he] at hc hs
  exact ⟨ad, a', c', rfl, hc, hs⟩
theorem row_mem {rows : List (List Value)} {k : Nat} (hk : k < rows.length) : row rows k ∈ rows := by
  have : row rows k = rows[k] := by unfold row; rw [List.getD_eq_getElem?_getD, List.getElem?_eq_getElem hk]; rfl
  rw [this]
  exact List.getElem_mem hk
theorem bytes_ints {xs : List Value} (h : Bytes xs) : ∃ zs : List Int, xs = zs.map (.int .u8) := by
  induction xs with
  | nil => exact ⟨[], rfl⟩
  | cons x xs ih =>
    obtain ⟨n, rfl⟩ := h x (by simp)
    obtain ⟨zs, rfl⟩ := ih (fun u hu => h u (List.mem_cons_of_mem _ hu))
    exact ⟨n :: zs, rfl⟩
theorem same_yes (s t : Value) (xs : List Value) (w : World) (hx : Bytes xs) (hs : Sees w s xs) (ht : Sees w t xs) (hl : xs.length ≤ 1000000000000) :
    Calls Try.prog 15 #[s, t] w fun e w' => e = .returned (.bool true) ∧ But [] w w' := by
  obtain ⟨zs, rfl⟩ := bytes_ints hx
  have h := same s t zs zs w hs ht (by simpa using hl)
  simpa using h
theorem write_no {base B b : Nat} {last : Int} {l : List Part} {w : World} {p : Part} (n : Int) {off : Int} {a : Option Addr} {m cap : Nat} (h : Mem w base B b last l) (hp : p ∈ l) (hn : n = p.num) (ho : I64 off) (hm : m ≤ 1000000000000) (hh : Has off m p.bs.length = false) :
    Calls Try.prog 7 #[.pointer (some ⟨B, 0, none⟩), .int .i64 n, .int .i64 off, .slice a m cap] w fun e w' => e = .returned (.int .i64 32) ∧ But [] w w' := by
  subst hn
  exact write_bounds base B b last off a m cap l p w h hp ho hm hh
/-- What the rows are behind the write. -/
def aft (rows : List (List Value)) (b : List Value) (o kk : Nat) (fb : Bool) (i : Nat) : List Value := if i = kk ∧ fb = true then splice (row rows kk) o b else row rows i
def fits (off : Int) (n m : Nat) : Bool := Has off m n
theorem aft_yes (rows : List (List Value)) (b : List Value) (o kk : Nat) : aft rows b o kk true kk = splice (row rows kk) o b := by simp [aft]
theorem aft_no {rows : List (List Value)} {b : List Value} {o kk : Nat} {fb : Bool} {i : Nat} (h : ¬ (i = kk ∧ fb = true)) : aft rows b o kk fb i = row rows i := by simp only [aft, if_neg h]
theorem Shape.congr {l : List Part} {n : Nat} {f g : Nat → List Value} (h : Shape l n f) (hfg : ∀ i, f i = g i) : Shape l n g := ⟨h.len, fun i p hp => by rw [← hfg]; exact h.at_ i p hp⟩
theorem aft_len {rows : List (List Value)} {b : List Value} {o kk : Nat} {fb : Bool} (h : fb = true → o + b.length ≤ (row rows kk).length) (i : Nat) : (aft rows b o kk fb i).length = (row rows i).length := by
  unfold aft
  split
  · rename_i hi
    obtain ⟨rfl, hf⟩ := hi
    exact length_splice' (h hf)
  · rfl
theorem splice_bytes {xs ys : List Value} {o : Nat} (hx : Bytes xs) (hy : Bytes ys) : Bytes (splice xs o ys) := fun u hu => by
  simp only [splice, List.mem_append] at hu
  rcases hu with h | h | h
  · exact hx u (List.mem_of_mem_take h)
  · exact hy u h
  · exact hx u (List.mem_of_mem_drop h)
theorem aft_bytes {rows : List (List Value)} {b : List Value} {o kk : Nat} {fb : Bool} (hr : ∀ r ∈ rows, IsBytes r ∧ r.length ≤ 140737488351232) (hb : IsBytes b) {i : Nat} (hi : i < rows.length) (hk : kk < rows.length) : Bytes (aft rows b o kk fb i) := by
  unfold aft
  split
  · exact splice_bytes (hr _ (row_mem hk)).1 hb
  · exact (hr _ (row_mem hi)).1
theorem own_splice {w w' : World} {g cap : Nat} {cur : Array Value} {xs cs : List Value} {o : Nat} (hg : w'.heap[g]? = some (.cells (splice cur.toList o cs).toArray 5 (0, 0))) (hcap : xs.length ≤ cap) (hmax : cap ≤ maxLen) (hsz : cur.size = cap) (ht : cur.toList.take xs.length = xs) (hfit : o + cs.length ≤ xs.length) :
    Own w' (.slice (some ⟨g, 0, none⟩) xs.length cap) (splice xs o cs) := by
  have hl : (splice xs o cs).length = xs.length := length_splice' hfit
  have hcl : cur.toList.length = cap := by simpa using hsz
  refine ⟨by omega, .inr ⟨g, cap, (splice cur.toList o cs).toArray, by rw [hl], Nat.zero_le _, hg, by omega, hmax, ?_, ?_⟩⟩
  · simp [length_splice cur.toList o cs (by omega)]; omega
  · rw [hl, Nat.mul_one]
    exact take_splice ht (by omega) hfit
theorem sees_take {w : World} {ad : Addr} {c m : Nat} {xs : List Value} (h : Sees w (.slice (some ad) xs.length c) xs) (hm : m ≤ xs.length) : Sees w (.slice (some ad) m c) (xs.take m) := by
  rcases h with ⟨h, _⟩ | ⟨ad', c', h, hc, hx⟩
  · cases h
  · obtain ⟨rfl, rfl⟩ : ad = ad' ∧ c = c' := by cases h; exact ⟨rfl, rfl⟩
    refine .inr ⟨ad, c, by rw [List.length_take, Nat.min_eq_left hm], by rw [List.length_take]; omega, fun j u hj => ?_⟩
    rw [List.getElem?_take] at hj
    split at hj
    · exact hx j u hj
    · cases hj
theorem isBytes_take {xs : List Value} (h : Bytes xs) (m : Nat) : Bytes (xs.take m) := fun u hu => h u (List.mem_of_mem_take hu)
end Go.Proofs.Ytmleaogklpogdaa.M
