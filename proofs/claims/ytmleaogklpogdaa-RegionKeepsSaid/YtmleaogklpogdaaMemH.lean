/-
  Plain: a memory as it lies: the map, its parts, their rows.
-/
import Derived.Test.YtmleaogklpogdaaMemG
namespace Go.Proofs.Ytmleaogklpogdaa.M
open Go.RowKit
set_option linter.unusedVariables false
set_option linter.unusedSectionVars false
set_option linter.unusedSimpArgs false
structure Part where
  num : Int
  blk : Nat
  kind : Int
  sl : Value
  bs : List Value
def Part.blocks (p : Part) : List Nat := p.blk :: p.sl.ownBlock.toList
def blocks (B b : Nat) (l : List Part) : List Nat := B :: b :: l.flatMap Part.blocks
def ents (l : List Part) : List (Int × Value) := l.map (fun p => (p.num, .pointer (some ⟨p.blk, 0, none⟩)))
def Bytes (xs : List Value) : Prop := ∀ u ∈ xs, ∃ n : Int, u = .int .u8 n
theorem Bytes.one {xs : List Value} (h : Bytes xs) : ∀ u ∈ xs, u.oneCell' = true := fun u hu => by obtain ⟨n, rfl⟩ := h u hu; rfl
structure Mem (w : World) (base B b : Nat) (last : Int) (l : List Part) : Prop where
  cell : w.heap[B]? = some (.cells #[.map (some b), .int .i64 last] tM)
  map : ∃ es clock, w.heap[b]? = some (.map es clock) ∧ Ents es (ents l)
  last0 : 0 ≤ last ∧ last < 10000
  nums : ∀ p ∈ l, 1 ≤ p.num ∧ p.num ≤ last
  dist : (l.map (·.num)).Nodup
  part : ∀ p ∈ l, w.heap[p.blk]? = some (.cells #[.int .u8 p.kind, p.sl] 51) ∧ Own w p.sl p.bs ∧ Bytes p.bs ∧ p.bs.length ≤ 4096 ∧ 1 ≤ p.kind ∧ p.kind ≤ 5
  apart : (blocks B b l).Nodup
  low : ∀ x ∈ blocks B b l, base ≤ x
theorem mem_blk {B b : Nat} {l : List Part} {p : Part} (hp : p ∈ l) : p.blk ∈ blocks B b l := by
  simp only [blocks, List.mem_cons, List.mem_flatMap]
  exact .inr (.inr ⟨p, hp, by simp [Part.blocks]⟩)
theorem mem_row {B b k : Nat} {l : List Part} {p : Part} (hp : p ∈ l) (hk : p.sl.ownBlock = some k) : k ∈ blocks B b l := by
  simp only [blocks, List.mem_cons, List.mem_flatMap]
  exact .inr (.inr ⟨p, hp, by simp [Part.blocks, hk]⟩)
theorem ents_num {l : List Part} : (ents l).map (·.1) = l.map (·.num) := by simp [ents]
theorem Mem.wf {w : World} {base B b : Nat} {last : Int} {l : List Part} (h : Mem w base B b last l) : ∀ p ∈ ents l, Wf p.1 := fun p hp => by
  obtain ⟨q, hq, rfl⟩ := List.mem_map.1 hp
  have := h.nums q hq
  have := h.last0
  exact wf_of (by simp only []; omega) (by simp only []; omega)
theorem Mem.but {w w' : World} {base B b : Nat} {last : Int} {l : List Part} {L : List Nat} (h : Mem w base B b last l) (hb : But L w w') (hL : ∀ x ∈ L, x ∉ blocks B b l) : Mem w' base B b last l where
  cell := hb.heap h.cell (fun hm => hL _ hm (by simp [blocks]))
  map := by
    obtain ⟨es, clock, h1, h2⟩ := h.map
    exact ⟨es, clock, hb.heap h1 (fun hm => hL _ hm (by simp [blocks])), h2⟩
  last0 := h.last0
  nums := h.nums
  dist := h.dist
  part := fun p hp => by
    obtain ⟨h1, h2, h3⟩ := h.part p hp
    exact ⟨hb.heap h1 (fun hm => hL _ hm (mem_blk hp)), h2.but hb (fun k hk hm => hL _ hm (mem_row hp hk)), h3⟩
  apart := h.apart
  low := h.low
theorem Mem.new {w w' : World} {base B b : Nat} {last : Int} {l : List Part} (h : Mem w base B b last l) (hb : But [] w w') : Mem w' base B b last l := h.but hb (by simp)
theorem Mem.lt {w : World} {base B b : Nat} {last : Int} {l : List Part} (h : Mem w base B b last l) : ∀ x ∈ blocks B b l, x < w.heap.size := by
  intro x hx
  simp only [blocks, List.mem_cons, List.mem_flatMap] at hx
  rcases hx with rfl | rfl | ⟨p, hp, hx⟩
  · exact lt_of h.cell
  · obtain ⟨es, clock, h1, _⟩ := h.map
    exact lt_of h1
  · obtain ⟨h1, h2, _⟩ := h.part p hp
    simp only [Part.blocks, List.mem_cons, Option.mem_toList] at hx
    rcases hx with rfl | hx
    · exact lt_of h1
    · exact h2.lt x hx
theorem mem_new (w : World) (base : Nat) (hb : base ≤ w.heap.size) : Mem ((w.alloc (.map #[] 0)).alloc (.cells #[.map (some w.heap.size), .int .i64 0] tM)) base (w.heap.size + 1) w.heap.size 0 [] where
  cell := by
    have := alloc_at (w.alloc (.map #[] 0)) (.cells #[.map (some w.heap.size), .int .i64 0] tM)
    rw [size_alloc] at this
    exact this
  map := ⟨#[], 0, alloc_lt (alloc_at w _) _, rfl⟩
  last0 := by omega
  nums := by simp
  dist := by simp
  part := by simp
  apart := by simp [blocks]
  low := by simp [blocks]; omega
end Go.Proofs.Ytmleaogklpogdaa.M
