/-
  The methods at a live part: Write.
-/
import Derived.Test.YtmleaogklpogdaaMemN
import Derived.Test.YtmleaogklpogdaaMemJ
namespace Go.Proofs.Ytmleaogklpogdaa.M
open Go.RowKit
set_option linter.unusedVariables false
set_option linter.unusedSectionVars false
set_option linter.unusedSimpArgs false
theorem nodup_flat {α β : Type} {f : α → List β} : ∀ {l : List α}, (l.flatMap f).Nodup → ∀ p ∈ l, ∀ q ∈ l, ∀ k, k ∈ f p → k ∈ f q → p = q
  | [], _, p, hp, _, _, _, _, _ => by cases hp
  | x :: l, h, p, hp, q, hq, k, h1, h2 => by
    rw [List.flatMap_cons, List.nodup_append] at h
    rcases List.mem_cons.1 hp with e1 | e1
    · rcases List.mem_cons.1 hq with e2 | e2
      · rw [e1, e2]
      · exact absurd rfl (h.2.2 k (e1 ▸ h1) k (List.mem_flatMap.2 ⟨q, e2, h2⟩))
    · rcases List.mem_cons.1 hq with e2 | e2
      · exact absurd rfl (h.2.2 k (e2 ▸ h2) k (List.mem_flatMap.2 ⟨p, e1, h1⟩))
      · exact nodup_flat h.2.1 p e1 q e2 k h1 h2
theorem nodup_part {α β : Type} {f : α → List β} : ∀ {l : List α}, (l.flatMap f).Nodup → ∀ p ∈ l, (f p).Nodup
  | [], _, p, hp => by cases hp
  | x :: l, h, p, hp => by
    rw [List.flatMap_cons, List.nodup_append] at h
    rcases List.mem_cons.1 hp with e1 | e1
    · rw [e1]; exact h.1
    · exact nodup_part h.2.1 p e1
def upd (l : List Part) (n : Int) (bs : List Value) : List Part := l.map (fun q => if q.num = n then { q with bs := bs } else q)
theorem upd_ents (l : List Part) (n : Int) (bs : List Value) : ents (upd l n bs) = ents l := by
  simp only [ents, upd, List.map_map]
  refine List.map_congr_left fun q _ => ?_
  simp only [Function.comp]
  split <;> rfl
theorem upd_nums (l : List Part) (n : Int) (bs : List Value) : (upd l n bs).map (·.num) = l.map (·.num) := by
  simp only [upd, List.map_map]
  refine List.map_congr_left fun q _ => ?_
  simp only [Function.comp]
  split <;> rfl
theorem upd_blocks (B b : Nat) (l : List Part) (n : Int) (bs : List Value) : blocks B b (upd l n bs) = blocks B b l := by
  simp only [blocks, upd, List.flatMap_map]
  congr 2
  refine congrArg (fun f => List.flatMap f l) (funext fun q => ?_)
  split <;> rfl
theorem Mem.write {w w' : World} {base B b : Nat} {last : Int} {l : List Part} {p : Part} {L : List Nat} {bs : List Value} (h : Mem w base B b last l) (hp : p ∈ l) (hb : But L w w') (hL : ∀ x ∈ L, p.sl.ownBlock = some x) (hown : Own w' p.sl bs) (hB : Bytes bs) (hlen : bs.length ≤ 4096) : Mem w' base B b last (upd l p.num bs) := by
  have hap := h.apart
  simp only [blocks, List.nodup_cons, List.mem_cons, not_or] at hap
  have hrow : ∀ x ∈ L, x ∈ Part.blocks p := fun x hx => by simp [Part.blocks, hL x hx]
  have hne : ∀ x ∈ L, x ≠ B ∧ x ≠ b := fun x hx => ⟨fun e => hap.1.2 (e ▸ List.mem_flatMap.2 ⟨p, hp, hrow x hx⟩), fun e => hap.2.1 (e ▸ List.mem_flatMap.2 ⟨p, hp, hrow x hx⟩)⟩
  have hblk : ∀ q ∈ l, q.blk ∉ L := fun q hq hm => by
    have e := nodup_flat hap.2.2 q hq p hp q.blk (by simp [Part.blocks]) (hrow _ hm)
    subst e
    have := nodup_part hap.2.2 q hq
    simp [Part.blocks, hL _ hm] at this
  exact {
    cell := hb.heap h.cell (fun hm => (hne _ hm).1 rfl)
    map := by
      obtain ⟨es, clock, h1, h2⟩ := h.map
      exact ⟨es, clock, hb.heap h1 (fun hm => (hne _ hm).2 rfl), by rw [upd_ents]; exact h2⟩
    last0 := h.last0
    nums := fun q hq => by
      obtain ⟨r, hr, rfl⟩ := List.mem_map.1 hq
      have := h.nums r hr
      split <;> exact this
    dist := by rw [upd_nums]; exact h.dist
    part := fun q hq => by
      obtain ⟨r, hr, rfl⟩ := List.mem_map.1 hq
      obtain ⟨h1, h2, h3, h4, h5⟩ := h.part r hr
      by_cases e : r.num = p.num
      · obtain rfl := nodup_inj h.dist r hr p hp e
        rw [if_pos rfl]
        exact ⟨hb.heap h1 (hblk r hr), hown, hB, hlen, h5⟩
      · rw [if_neg e]
        refine ⟨hb.heap h1 (hblk r hr), h2.but hb (fun k hk hm => e ?_), h3, h4, h5⟩
        rw [nodup_flat hap.2.2 r hr p hp k (by simp [Part.blocks, hk]) (hrow _ hm)]
    apart := by rw [upd_blocks]; exact h.apart
    low := by rw [upd_blocks]; exact h.low }
end Go.Proofs.Ytmleaogklpogdaa.M
