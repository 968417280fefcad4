/-
  LruLast: what stands at the head of the deeds' loop, and behind the switch.
-/
import Derived.Test.YtifgfnifadmoaaaRQ
import Derived.Test.YtifgfnifadmoaaaLastQ
import Derived.Test.YtifgfnifadmoaaaSameR
namespace Go.Proofs.Ytifgfnifadmoaaa.M
open Go.RowKit
set_option linter.unusedVariables false
set_option linter.unusedSectionVars false
set_option linter.unusedSimpArgs false
/-- Boxes that none of its own: they stay. -/
def BoxesOff (S : Nat → Prop) (W : World) (Bx : List (Nat × Obj)) : Prop := ∀ p ∈ Bx, ¬ S p.1 ∧ W.heap[p.1]? = some p.2
theorem BoxesOff.keep {S : Nat → Prop} {W W' : World} {Bx : List (Nat × Obj)} {L : List Nat} (h : BoxesOff S W Bx) (hb : But L W W') (hL : ∀ p ∈ Bx, p.1 ∉ L) : BoxesOff S W' Bx := fun p hp => ⟨(h p hp).1, hb.heap (h p hp).2 (hL p hp)⟩
theorem BoxesOff.turn {S S' : Nat → Prop} {W w' : World} {Bx : List (Nat × Obj)} (h : BoxesOff S W Bx) (ht : TurnsO S S' W w') : BoxesOff S' w' Bx := fun p hp => by
  obtain ⟨h1, h2⟩ := h p hp
  obtain ⟨hS, L, hL, hb⟩ := ht
  have hlt := lt_of h2
  refine ⟨fun hs => h1 (hS _ hlt hs), hb.heap h2 (fun hm => ?_)⟩
  rcases hL _ hm with h3 | h3
  · exact h1 h3
  · omega
/-- What stands at the head of the deeds' loop. -/
structure LL (w W : World) (P K V N : Nat) (ov vv : Value) (Bx : List (Nat × Obj)) : Prop where
  ex : ∃ (S : Nat → Prop) (A : LSt) (rows X Y : List (List Int)), LO w W S P K V N A rows ∧ RQ w W S ov X ∧ RQ w W S vv Y ∧ X.length = Y.length ∧ ZA rows A = X.zip Y ∧ (∀ b, ov.ownBlock = some b → vv.ownBlock ≠ some b) ∧ BoxesOff S W Bx
theorem LL.keep {w W W' : World} {P K V N : Nat} {ov vv : Value} {Bx : List (Nat × Obj)} (h : LL w W P K V N ov vv Bx) (hb : But [] W W') : LL w W' P K V N ov vv Bx := by
  obtain ⟨⟨S, A, rows, X, Y, h1, h2, h3, h4, h5, h6, h7⟩⟩ := h
  exact ⟨⟨S, A, rows, X, Y, h1.keep hb (by simp), h2.keep hb (fun b _ => by simp), h3.keep hb (fun b _ => by simp), h4, h5, h6, h7.keep hb (by simp)⟩⟩
theorem LL.box {w W W' : World} {P K V N : Nat} {ov vv : Value} {Bx : List (Nat × Obj)} {o : Obj} (h : LL w W P K V N ov vv Bx) (hb : But [] W W') (ho : W'.heap[W.heap.size]? = some o) : LL w W' P K V N ov vv ((W.heap.size, o) :: Bx) := by
  obtain ⟨⟨S, A, rows, X, Y, h1, h2, h3, h4, h5, h6, h7⟩⟩ := h
  refine ⟨⟨S, A, rows, X, Y, h1.keep hb (by simp), h2.keep hb (fun b _ => by simp), h3.keep hb (fun b _ => by simp), h4, h5, h6, fun p hp => ?_⟩⟩
  rcases List.mem_cons.1 hp with rfl | hp
  · exact ⟨fun hs => by have := (h1.low _ hs).2; omega, ho⟩
  · exact h7.keep hb (by simp) p hp
theorem LL.unbox {w W : World} {P K V N : Nat} {ov vv : Value} {Bx : List (Nat × Obj)} {x : Nat × Obj} (h : LL w W P K V N ov vv (x :: Bx)) : LL w W P K V N ov vv Bx := by
  obtain ⟨⟨S, A, rows, X, Y, h1, h2, h3, h4, h5, h6, h7⟩⟩ := h
  exact ⟨⟨S, A, rows, X, Y, h1, h2, h3, h4, h5, h6, fun p hp => h7 p (List.mem_cons_of_mem _ hp)⟩⟩
theorem LL.boxAt {w W : World} {P K V N : Nat} {ov vv : Value} {Bx : List (Nat × Obj)} (h : LL w W P K V N ov vv Bx) {p : Nat × Obj} (hp : p ∈ Bx) : W.heap[p.1]? = some p.2 := by
  obtain ⟨⟨S, A, rows, X, Y, h1, h2, h3, h4, h5, h6, h7⟩⟩ := h
  exact (h7 p hp).2
theorem LL.but {w W : World} {P K V N : Nat} {ov vv : Value} {Bx : List (Nat × Obj)} (h : LL w W P K V N ov vv Bx) : But [] w W := by
  obtain ⟨⟨S, A, rows, X, Y, h1, _⟩⟩ := h
  exact h1.but
theorem LL.forms {w W : World} {P K V N : Nat} {ov vv : Value} {Bx : List (Nat × Obj)} (h : LL w W P K V N ov vv Bx) : ∃ a n c b d, ov = .slice a n c ∧ vv = .slice b n d := by
  obtain ⟨⟨S, A, rows, X, Y, h1, h2, h3, h4, h5, h6, h7⟩⟩ := h
  obtain ⟨a, c, e1⟩ := h2.form
  obtain ⟨b, d, e2⟩ := h3.form
  exact ⟨a, X.length, c, b, d, e1, by rw [h4]; exact e2⟩
theorem wf_i64 {z : Int} (h : (Lit.int .i64 z).wf = true) : -9223372036854775808 ≤ z ∧ z ≤ 9223372036854775807 := by
  simp only [Lit.wf, Bool.and_eq_true, decide_eq_true_eq] at h
  exact ⟨Int.le_trans (by decide) h.1, Int.le_trans h.2 (by decide)⟩
theorem q_range {q z : Int} (h : q = z % 9) : 0 ≤ q ∧ q < 9 := by omega
theorem newLO {w w1 w3 : World} {P K V N : Nat} {A : LSt} {rows : List (List Int)} (hb : But [] w w1) (h : LB w1 w3 P K V N A rows) : LO w w3 (fun b => w1.heap.size ≤ b ∧ b < w3.heap.size) P K V N A rows :=
  ⟨h.1.mono (fun b hb h => ⟨h, hb⟩), fun b h => ⟨Nat.le_trans hb.size h.1, h.2⟩, hb.trans h.2 (by simp)⟩
structure MidL (w W : World) (P K V N : Nat) (ov vv : Value) (Bx : List (Nat × Obj)) (q : Int) (ks vs : List Int) (f : Int) : Prop where
  ex : ∃ (S : Nat → Prop) (A : LSt) (rows X Y : List (List Int)), LO w W S P K V N A rows ∧ RQ w W S ov X ∧ RQ w W S vv Y ∧ X.length = Y.length ∧ (∀ b, ov.ownBlock = some b → vv.ownBlock ≠ some b) ∧ (f ≠ 0 → ZA rows A = X.zip Y) ∧ (f = 0 → StepZ N q (X.zip Y) ks vs (ZA rows A)) ∧ ((X.zip Y).map (·.1)).Nodup ∧ A.length ≤ N ∧ X.length ≤ N ∧ BoxesOff S W Bx
theorem za_nodup {rows X Y : List (List Int)} {A : LSt} (h : ZA rows A = X.zip Y) (hn : (A.map (·.1)).Nodup) : ((X.zip Y).map (·.1)).Nodup := by
  rw [← h]
  unfold ZA
  rw [List.map_map]
  exact hn
theorem nodup_le : ∀ (N : Nat) (l : List Nat), l.Nodup → (∀ x ∈ l, x < N) → l.length ≤ N := nodup_below
theorem LS.fits {w : World} {ok : Nat → Prop} {P K V N : Nat} {A : LSt} {rows : List (List Int)} (h : LS w ok P K V N A rows) : A.length ≤ N := by
  obtain ⟨p1, p2, p3⟩ := h.places
  have := nodup_le N (A.map (·.2)) p1 (fun x hx => by obtain ⟨y, hy, rfl⟩ := List.mem_map.1 hx; exact p2 y hy)
  simpa using this
theorem za_fits {rows X Y : List (List Int)} {A : LSt} {N : Nat} (h : ZA rows A = X.zip Y) (hl : X.length = Y.length) (hA : A.length ≤ N) : X.length ≤ N := by
  have h1 := congrArg List.length h
  have h2 : (ZA rows A).length = A.length := by simp [ZA]
  rw [h2, List.length_zip, ← hl, Nat.min_self] at h1
  omega
section
variable {w W : World} {P K V N : Nat} {ov vv : Value} {Bx : List (Nat × Obj)}
theorem LL.lookup (h : LL w W P K V N ov vv Bx) (a : Option Addr) (c : Nat) {ks : List Int} (vs : List Int) (hs : Sees W (.slice a ks.length c) (u8s ks)) (hk : ByteL ks) {q : Int} (hq : q ≤ 1) :
    Calls Try.prog 11 #[.pointer (some ⟨P, 0, none⟩), .slice a ks.length c] W fun r w' => ∃ p f, r = .returned (.tuple #[.int .i64 p, .int .i64 f]) ∧ MidL w w' P K V N ov vv Bx q ks vs f := by
  obtain ⟨⟨S, A, rows, X, Y, h1, h2, h3, h4, h5, h6, h7⟩⟩ := h
  refine (h1.lookup a c hs hk).mono ?_
  rintro r w' ⟨rfl, S', hL, hT⟩
  obtain ⟨k1, k2⟩ := step_look (N := N) (K := K) (q := q) (A := A) (rows := rows) (ks := ks) (vs := vs) hq h1.ls.nodup
  refine ⟨_, _, rfl, ⟨⟨S', _, _, X, Y, hL, h2.turn hT, h3.turn hT, h4, h6, fun hf => ?_, fun hf => ?_, za_nodup h5 h1.ls.nodup, hL.ls.fits, za_fits h5 h4 h1.ls.fits, h7.turn hT⟩⟩⟩
  · rw [k1 hf, h5]
  · rw [← h5]; exact k2 hf
theorem LL.delete (h : LL w W P K V N ov vv Bx) (a : Option Addr) (c : Nat) {ks : List Int} (vs : List Int) (hs : Sees W (.slice a ks.length c) (u8s ks)) (hk : ByteL ks) :
    Calls Try.prog 15 #[.pointer (some ⟨P, 0, none⟩), .slice a ks.length c] W fun r w' => ∃ f, r = .returned (.int .i64 f) ∧ MidL w w' P K V N ov vv Bx 5 ks vs f := by
  obtain ⟨⟨S, A, rows, X, Y, h1, h2, h3, h4, h5, h6, h7⟩⟩ := h
  refine (h1.delete a c hs hk).mono ?_
  rintro r w' ⟨rfl, S', hL, hT⟩
  obtain ⟨k1, k2⟩ := step_del (N := N) (K := K) (A := A) (rows := rows) (ks := ks) (vs := vs) h1.ls.nodup
  refine ⟨_, rfl, ⟨⟨S', _, _, X, Y, hL, h2.turn hT, h3.turn hT, h4, h6, fun hf => ?_, fun hf => ?_, za_nodup h5 h1.ls.nodup, hL.ls.fits, za_fits h5 h4 h1.ls.fits, h7.turn hT⟩⟩⟩
  · rw [k1 hf, h5]
  · rw [← h5]; exact k2 hf
theorem LL.update (h : LL w W P K V N ov vv Bx) (a : Option Addr) (c : Nat) {ks : List Int} (hs : Sees w (.slice a ks.length c) (u8s ks)) (hk : ByteL ks) (vb : Option Addr) (vc : Nat) {vs : List Int} (hvs : Sees w (.slice vb vs.length vc) (u8s vs)) (hv : ByteL vs) (f : Int) (hf0 : 0 ≤ f) (hK : 1 ≤ K) (hV : 1 ≤ V) (hN : 1 ≤ N) {q : Int} (hq : 1 < q) (hq5 : q ≠ 5) :
    Calls Try.prog 10 #[.pointer (some ⟨P, 0, none⟩), .slice a ks.length c, .slice vb vs.length vc, .int .u64 f] W fun r w' => ∃ e, r = .returned (.int .i64 e) ∧ MidL w w' P K V N ov vv Bx q ks vs e := by
  obtain ⟨⟨S, A, rows, X, Y, h1, h2, h3, h4, h5, h6, h7⟩⟩ := h
  refine (h1.update a c hs hk vb vc hvs hv f hf0 hK hV).mono ?_
  rintro r w' ⟨rfl, S', hL, hT⟩
  obtain ⟨p1, p2, p3⟩ := h1.ls.places
  obtain ⟨p4, p5, _⟩ := hL.ls.places
  have hA : A.length ≤ N := by
    have := nodup_le N (A.map (·.2)) p1 (fun x hx => by obtain ⟨y, hy, rfl⟩ := List.mem_map.1 hx; exact p2 y hy)
    simpa using this
  obtain ⟨k1, k2⟩ := step_upd (K := K) (V := V) (f := f) (ks := ks) (vs := vs) hq hq5 h1.ls.nodup hA hN p3 p2 p4 p5
  refine ⟨_, rfl, ⟨⟨S', _, _, X, Y, hL, h2.turn hT, h3.turn hT, h4, h6, fun hf => ?_, fun hf => ?_, za_nodup h5 h1.ls.nodup, hL.ls.fits, za_fits h5 h4 h1.ls.fits, h7.turn hT⟩⟩⟩
  · obtain ⟨k3, k4⟩ := k1 hf
    rw [k3, k4, h5]
  · rw [← h5]; exact k2 hf
theorem MidL.boxAt {q f : Int} {ks vs : List Int} (h : MidL w W P K V N ov vv Bx q ks vs f) {p : Nat × Obj} (hp : p ∈ Bx) : W.heap[p.1]? = some p.2 := by
  obtain ⟨⟨S, A, rows, X, Y, h1, h2, h3, h4, h5, h6, h7, h8, h9, h10, h11⟩⟩ := h
  exact (h11 p hp).2
theorem MidL.head {q f : Int} {ks vs : List Int} (h : MidL w W P K V N ov vv Bx q ks vs f) (hf : f ≠ 0) : LL w W P K V N ov vv Bx := by
  obtain ⟨⟨S, A, rows, X, Y, h1, h2, h3, h4, h5, h6, h7, h8, h9, h10, h11⟩⟩ := h
  exact ⟨⟨S, A, rows, X, Y, h1, h2, h3, h4, h6 hf, h5, h11⟩⟩
end
end Go.Proofs.Ytifgfnifadmoaaa.M
