/-
  The method Make.
-/
import Derived.Test.YtmleaogklpogdaaMemQ
namespace Go.Proofs.Ytmleaogklpogdaa.M
open Go.RowKit
set_option linter.unusedVariables false
set_option linter.unusedSectionVars false
set_option linter.unusedSimpArgs false
theorem Mem.make {w w' : World} {base B b c : Nat} {last kind : Int} {sl : Value} {bs : List Value} {l : List Part} (h : Mem w base B b last l) (hlast : last < 9000) (hb : But [B, b] w w') (hcell : w'.heap[B]? = some (.cells #[.map (some b), .int .i64 (last + 1)] tM))
    (hm : ∃ es clock, w'.heap[b]? = some (.map es clock) ∧ Ents es (ents l ++ [(last + 1, .pointer (some ⟨c, 0, none⟩))]))
    (hc : w'.heap[c]? = some (.cells #[.int .u8 kind, sl] 51)) (hown : Own w' sl bs) (hB : Bytes bs) (hlen : bs.length ≤ 4096) (hk : 1 ≤ kind ∧ kind ≤ 5)
    (hc1 : w.heap.size ≤ c) (hs1 : ∀ k, sl.ownBlock = some k → w.heap.size ≤ k ∧ k ≠ c) (hbase : base ≤ w.heap.size) :
    Mem w' base B b (last + 1) (l ++ [⟨last + 1, c, kind, sl, bs⟩]) := by
  have hap := h.apart
  simp only [blocks, List.nodup_cons, List.mem_cons, not_or] at hap
  have hnB : ∀ q ∈ l, ∀ k ∈ Part.blocks q, k ≠ B ∧ k ≠ b := fun q hq k hk => ⟨fun e => hap.1.2 (e ▸ List.mem_flatMap.2 ⟨q, hq, hk⟩), fun e => hap.2.1 (e ▸ List.mem_flatMap.2 ⟨q, hq, hk⟩)⟩
  have hnew : ∀ x ∈ Part.blocks ⟨last + 1, c, kind, sl, bs⟩, w.heap.size ≤ x := fun x hx => by
    simp only [Part.blocks, List.mem_cons, Option.mem_toList] at hx
    rcases hx with rfl | hx
    · exact hc1
    · exact (hs1 x hx).1
  have hl0 := h.last0
  have hbl : blocks B b (l ++ [⟨last + 1, c, kind, sl, bs⟩]) = blocks B b l ++ Part.blocks ⟨last + 1, c, kind, sl, bs⟩ := by simp [blocks]
  exact {
    cell := hcell
    map := by
      obtain ⟨es, clock, h1, h2⟩ := hm
      exact ⟨es, clock, h1, by simpa [ents] using h2⟩
    last0 := by omega
    nums := fun p hp => by
      rcases List.mem_append.1 hp with hp | hp
      · have := h.nums p hp; omega
      · have := List.mem_singleton.1 hp; subst this; simp only []; omega
    dist := by
      rw [List.map_append, List.nodup_append]
      refine ⟨h.dist, by simp, fun x hx y hy => ?_⟩
      obtain ⟨p, hp, rfl⟩ := List.mem_map.1 hx
      simp at hy
      have := h.nums p hp
      omega
    part := fun p hp => by
      rcases List.mem_append.1 hp with hp | hp
      · obtain ⟨h1, h2, h3⟩ := h.part p hp
        exact ⟨hb.heap h1 (by have := hnB p hp p.blk (by simp [Part.blocks]); simpa using this), h2.but hb (fun k hk => by have := hnB p hp k (by simp [Part.blocks, hk]); simpa using this), h3⟩
      · have := List.mem_singleton.1 hp; subst this
        exact ⟨hc, hown, hB, hlen, hk⟩
    apart := by
      rw [hbl, List.nodup_append]
      refine ⟨h.apart, ?_, fun x hx y hy e => ?_⟩
      · simp only [Part.blocks, List.nodup_cons, Option.mem_toList]
        refine ⟨fun hx => (hs1 c hx).2 rfl, ?_⟩
        cases sl.ownBlock <;> simp
      · have := h.lt x hx
        have := hnew y hy
        omega
    low := fun x hx => by
      rw [hbl] at hx
      rcases List.mem_append.1 hx with hx | hx
      · exact h.low x hx
      · have := hnew x hx; omega }
theorem make_ok (base B b : Nat) (last kind : Int) (a : Option Addr) (m cap : Nat) (xs : List Value) (l : List Part) (w : World) (h : Mem w base B b last l) (hlast : last < 9000) (hs : Sees w (.slice a m cap) xs) (hx : Bytes xs) (hm : m = xs.length) (hlen : xs.length ≤ 4096) (hk : 1 ≤ kind ∧ kind ≤ 5) (hbase : base ≤ w.heap.size) :
    Calls Try.prog 5 #[.pointer (some ⟨B, 0, none⟩), .int .u8 kind, .slice a m cap] w fun e w' => e = .returned (.tuple #[.int .i64 (last + 1), .int .i64 0]) ∧ But [B, b] w w' ∧ ∃ c sl, Mem w' base B b (last + 1) (l ++ [⟨last + 1, c, kind, sl, xs⟩]) := by
  obtain ⟨es, clock, hmm, hE⟩ := h.map
  have hl0 := h.last0
  have cB := cell_of h.cell 0
  obtain ⟨hk1, hk5⟩ := hk
  have hmle : m ≤ 4096 := by omega
  clear hm
  have HS : Sees w.drew (.slice a m cap) xs := hs
  have hcell0 : w.drew.heap[B]? = some (.cells #[.map (some b), .int .i64 last] tM) := h.cell
  have hmm0 : w.drew.heap[b]? = some (.map es clock) := hmm
  have hBlt := lt_of h.cell
  have hblt := lt_of hmm
  have hl1 : 0 ≤ last ∧ last < 1000000 := by omega
  have hne : ∀ p ∈ ents l, p.1 ≠ last + 1 := not_key (fun p hp => by have := h.nums p hp; omega)
  go_enter Try.func5, Try.ntmps5
  go_wp2_with (go_at_call 16; refine (known B (some b) _ cB).mono ?_; rintro e w1 ⟨rfl, rfl⟩)
  go_region_with (first | (go_at_call 18; refine (clone (.slice a m cap) xs _ HS hx.one (by omega)).mono ?_; rintro e w1 ⟨v1, rfl, ho1, hn1, hb1⟩; obtain ⟨a1, n1, cap1, rfl⟩ := own_shape ho1) | (go_at_call 17; refine (put B b _ last es clock (ents l) _ ((hb1.alloc _).heap hcell0 (by simp)) ((hb1.alloc _).heap hmm0 (by simp)) hE h.wf hl1 hne).mono ?_; rintro e w2 ⟨rfl, hb2, hB2, hm2⟩))
  all_goals
    try go_wp2
    go_ret2
    have hz1 := hb1.size
    have hz2 : w.drew.heap.size = w.heap.size := rfl
    have hbt : But [B, b] w w2 := (((But.refl [B, b] w).drew).trans (hb1.alloc _) (by simp)).trans hb2 (fun x hx => .inl hx)
    have hc1 : w2.heap[w1.heap.size]? = some (.cells #[.int .u8 kind, .slice a1 n1 cap1] 51) := hb2.heap (alloc_at w1 _) (by simp; omega)
    refine ⟨rfl, hbt, w1.heap.size, .slice a1 n1 cap1, h.make hlast hbt hB2 hm2 hc1 ((ho1.but ((But.refl [] w1).alloc _) (by simp)).but hb2 (fun k hk => ?_)) hx hlen ⟨hk1, hk5⟩ (by omega) (fun k hk => ?_) hbase⟩
    · have := hn1 k hk
      simp; omega
    · have := hn1 k hk
      have := ho1.lt k hk
      omega
end Go.Proofs.Ytmleaogklpogdaa.M
