/-
  lru: one whose blocks are told by S, beside other blocks that are new since w.
-/
import Derived.Test.YtifgfnifadmoaaaLastP
import Derived.Test.YtifgfnifadmoaaaKeysT
namespace Go.Proofs.Ytifgfnifadmoaaa.M
open Go.RowKit
set_option linter.unusedVariables false
set_option linter.unusedSectionVars false
set_option linter.unusedSimpArgs false
structure LO (w W : World) (S : Nat → Prop) (P K V N : Nat) (A : LSt) (rows : List (List Int)) : Prop where
  ls : LS W S P K V N A rows
  low : ∀ b, S b → w.heap.size ≤ b ∧ b < W.heap.size
  but : But [] w W
/-- What an operation turns. -/
def TurnsO (S S' : Nat → Prop) (W w' : World) : Prop := (∀ b, b < W.heap.size → S' b → S b) ∧ ∃ L, (∀ x ∈ L, S x ∨ W.heap.size ≤ x) ∧ But L W w'
theorem offU' {w W : World} {a : Option Addr} {c : Nat} {ks : List Int} (h : Sees w (.slice a ks.length c) (u8s ks)) (hb : w.heap.size ≤ W.heap.size) : 0 < ks.length → ∀ b, (Value.slice a ks.length c).ownBlock = some b → b < w.heap.size := fun h0 b hbb => by
  have h' : Sees w (.slice a (u8s ks).length c) (u8s ks) := by rw [u8s_len]; exact h
  have := Off.old (wx := W) (wy := w) (w := w) h' (Nat.le_refl _) (Nat.le_refl _)
  rw [u8s_len] at this
  exact (this h0 b hbb).1
section
variable {w W : World} {S : Nat → Prop} {P K V N : Nat} {A : LSt} {rows : List (List Int)}
theorem LO.at' (h : LO w W S P K V N A rows) : LS W (fun b => S b ∨ W.heap.size ≤ b) P K V N A rows := h.ls.mono (fun b _ hb => .inl hb)
theorem LO.back {w' : World} (h : LO w W S P K V N A rows) {A' : LSt} {rows' : List (List Int)} (h1 : LS w' (fun b => S b ∨ W.heap.size ≤ b) P K V N A' rows') (h2 : Turns (fun b => S b ∨ W.heap.size ≤ b) W w') : ∃ S', LO w w' S' P K V N A' rows' ∧ TurnsO S S' W w' := by
  obtain ⟨L, hL, hb⟩ := h2
  have hs := h.but.size
  refine ⟨fun b => (S b ∨ W.heap.size ≤ b) ∧ b < w'.heap.size, ⟨h1.mono (fun b hb hk => ⟨hk, hb⟩), fun b hb => ⟨?_, hb.2⟩, h.but.trans hb (fun x hx => .inr ?_)⟩, fun b hb hk => ?_, L, hL, hb⟩
  · rcases hb.1 with h3 | h3
    · exact (h.low b h3).1
    · omega
  · rcases hL x hx with h3 | h3
    · exact (h.low x h3).1
    · omega
  · rcases hk.1 with h3 | h3
    · exact h3
    · omega
theorem LO.keep {W' : World} (h : LO w W S P K V N A rows) {L : List Nat} (hb : But L W W') (hL : ∀ x ∈ L, ¬ S x ∧ w.heap.size ≤ x) : LO w W' S P K V N A rows :=
  ⟨h.ls.keep hb (fun x hx => (hL x hx).1), fun b hs => ⟨(h.low b hs).1, Nat.lt_of_lt_of_le (h.low b hs).2 hb.size⟩, h.but.trans hb (fun x hx => .inr (hL x hx).2)⟩
theorem off_in {a : Option Addr} {c : Nat} {ks : List Int} (hlow : ∀ b, S b → w.heap.size ≤ b ∧ b < W.heap.size) (hb : But [] w W) (hs : Sees w (.slice a ks.length c) (u8s ks)) : 0 < ks.length → ∀ b, (Value.slice a ks.length c).ownBlock = some b → ¬ (S b ∨ W.heap.size ≤ b) := fun h0 b hbb hk => by
  have h1 := offU' (W := W) hs hb.size h0 b hbb
  rcases hk with hk | hk
  · have := (hlow b hk).1; omega
  · have := hb.size; omega
theorem LO.lookup (h : LO w W S P K V N A rows) (a : Option Addr) (c : Nat) {ks : List Int} (hs : Sees W (.slice a ks.length c) (u8s ks)) (hk : ByteL ks) :
    Calls Try.prog 11 #[.pointer (some ⟨P, 0, none⟩), .slice a ks.length c] W fun r w' => r = .returned (.tuple #[.int .i64 (lookA K A ks).1, .int .i64 (lookA K A ks).2.1]) ∧ ∃ S', LO w w' S' P K V N (lookA K A ks).2.2 rows ∧ TurnsO S S' W w' := by
  refine (h.at'.lookup a c hs hk).mono ?_
  rintro r w' ⟨rfl, h1, h2⟩
  exact ⟨rfl, h.back h1 h2⟩
theorem LO.delete (h : LO w W S P K V N A rows) (a : Option Addr) (c : Nat) {ks : List Int} (hs : Sees W (.slice a ks.length c) (u8s ks)) (hk : ByteL ks) :
    Calls Try.prog 15 #[.pointer (some ⟨P, 0, none⟩), .slice a ks.length c] W fun r w' => r = .returned (.int .i64 (delA K A ks).1) ∧ ∃ S', LO w w' S' P K V N (delA K A ks).2 rows ∧ TurnsO S S' W w' := by
  refine (h.at'.delete a c hs hk).mono ?_
  rintro r w' ⟨rfl, h1, h2⟩
  exact ⟨rfl, h.back h1 h2⟩
theorem LO.update (h : LO w W S P K V N A rows) (a : Option Addr) (c : Nat) {ks : List Int} (hs : Sees w (.slice a ks.length c) (u8s ks)) (hk : ByteL ks) (vb : Option Addr) (vc : Nat) {vs : List Int} (hvs : Sees w (.slice vb vs.length vc) (u8s vs)) (hv : ByteL vs) (f : Int) (hf0 : 0 ≤ f) (hK : 1 ≤ K) (hV : 1 ≤ V) :
    Calls Try.prog 10 #[.pointer (some ⟨P, 0, none⟩), .slice a ks.length c, .slice vb vs.length vc, .int .u64 f] W fun r w' => r = .returned (.int .i64 (updA K V N A rows ks vs f).1) ∧ ∃ S', LO w w' S' P K V N (updA K V N A rows ks vs f).2.1 (updA K V N A rows ks vs f).2.2 ∧ TurnsO S S' W w' := by
  refine (h.at'.update a c (hs.but h.but (by simp)) hk vb vc (hvs.but h.but (by simp)) hv f hf0 (off_in h.low h.but hs) (off_in h.low h.but hvs) hK hV (fun b hb => .inr hb)).mono ?_
  rintro r w' ⟨rfl, h1, h2⟩
  exact ⟨rfl, h.back h1 h2⟩
end
end Go.Proofs.Ytifgfnifadmoaaa.M
