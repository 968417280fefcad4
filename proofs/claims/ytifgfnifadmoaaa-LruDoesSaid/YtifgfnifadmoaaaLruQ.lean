/-
  lru: Value and Set of any arguments; one that is new since a world.
-/
import Derived.Test.YtifgfnifadmoaaaLruP
namespace Go.Proofs.Ytifgfnifadmoaaa.M
open Go.RowKit
set_option linter.unusedVariables false
set_option linter.unusedSectionVars false
set_option linter.unusedSimpArgs false
def valA (N : Nat) (rows : List (List Int)) (p : Int) : List Int × Int := if p < 0 ∨ (N : Int) ≤ p then ([], 6) else ((rows[p.toNat]?).getD [], 0)
def setA (V N : Nat) (rows : List (List Int)) (p off : Int) (bs : List Int) : Int × List (List Int) :=
  if p < 0 ∨ (N : Int) ≤ p then (6, rows) else if off < 0 ∨ (V : Int) - bs.length < off then (32, rows) else (0, rows.set p.toNat (setAt ((rows[p.toNat]?).getD []) off.toNat bs))
theorem newRow_nil (w w' : World) : NewRow w w' (.slice none 0 0) [] := ⟨none, 0, rfl, OwnQ.nil _ _, fun b hb => by cases hb⟩
section
variable {w : World} {ok : Nat → Prop} {P K V N : Nat} {A : LSt} {rows : List (List Int)}
theorem LS.rowAt (h : LS w ok P K V N A rows) {p : Int} (hp : ¬ (p < 0 ∨ (N : Int) ≤ p)) : ∃ r, rows[p.toNat]? = some r ∧ r.length = V ∧ ByteL r := by
  obtain ⟨M, U, Rm, g, E, h1, h2, h3, h4⟩ := h
  have hlt : p.toNat < rows.length := by rw [h1.rowsw.1]; omega
  exact ⟨_, List.getElem?_eq_getElem hlt, (h1.rowsw.2 _ _ (List.getElem?_eq_getElem hlt)).2⟩
theorem LS.value (h : LS w ok P K V N A rows) (p : Int) :
    Calls Try.prog 17 #[.pointer (some ⟨P, 0, none⟩), .int .i64 p] w fun e w' => ∃ v, e = .returned (.tuple #[v, .int .i64 (valA N rows p).2]) ∧ NewRow w w' v (valA N rows p).1 ∧ But [] w w' := by
  obtain ⟨M, U, Rm, g, E, h1, h2, h3, h4⟩ := id h
  by_cases hp : p < 0 ∨ (N : Int) ≤ p
  · have e1 : valA N rows p = ([], 6) := if_pos hp
    rw [e1]
    refine (h1.value_out hp).mono ?_
    rintro e w' ⟨rfl, rfl⟩
    exact ⟨_, rfl, newRow_nil _ _, But.refl _ _⟩
  · obtain ⟨r, hr, _⟩ := h.rowAt hp
    have e1 : valA N rows p = (r, 0) := by unfold valA; rw [if_neg hp, hr]; rfl
    rw [e1]
    obtain ⟨q, rfl⟩ : ∃ q : Nat, p = q := ⟨p.toNat, by omega⟩
    refine (h1.value_in (p := q) (by simpa using hr)).mono ?_
    rintro e w' ⟨v, rfl, hn, hb⟩
    exact ⟨v, rfl, hn, hb⟩
theorem LS.set (h : LS w ok P K V N A rows) (p off : Int) (a : Option Addr) (c : Nat) {bs : List Int} (hs : Sees w (.slice a bs.length c) (u8s bs)) (hby : ByteL bs) (hn : bs.length ≤ 140737488351232) :
    Calls Try.prog 25 #[.pointer (some ⟨P, 0, none⟩), .int .i64 p, .int .i64 off, .slice a bs.length c] w fun e w' => e = .returned (.int .i64 (setA V N rows p off bs).1) ∧ LS w' ok P K V N A (setA V N rows p off bs).2 ∧ Turns ok w w' := by
  obtain ⟨M, U, Rm, g, E, h1, h2, h3, h4⟩ := id h
  by_cases hp : p < 0 ∨ (N : Int) ≤ p
  · have e1 : setA V N rows p off bs = (6, rows) := if_pos hp
    rw [e1]
    refine (h1.set_out hp off _).mono ?_
    rintro e w' ⟨rfl, rfl⟩
    exact ⟨rfl, h, .refl _ _⟩
  · obtain ⟨r, hr, _⟩ := h.rowAt hp
    obtain ⟨q, rfl⟩ : ∃ q : Nat, p = q := ⟨p.toNat, by omega⟩
    by_cases ho : off < 0 ∨ (V : Int) - bs.length < off
    · have e1 : setA V N rows q off bs = (32, rows) := by unfold setA; rw [if_neg hp, if_pos ho]
      rw [e1]
      refine (h1.set_bad (p := q) (by omega) hn ho a c).mono ?_
      rintro e w' ⟨rfl, rfl⟩
      exact ⟨rfl, h, .refl _ _⟩
    · obtain ⟨o, rfl⟩ : ∃ o : Nat, off = o := ⟨off.toNat, by omega⟩
      have e1 : setA V N rows q o bs = (0, rows.set q (setAt r o bs)) := by
        unfold setA; rw [if_neg hp, if_neg ho, hr]; rfl
      rw [e1]
      refine (h1.set_in (p := q) (by simpa using hr) (off := o) (by omega) a c hs hby).mono ?_
      rintro e w' ⟨rfl, hL, hb⟩
      refine ⟨rfl, ⟨M, U, Rm, g, E, hL, h2, h3, h4⟩, .of hb (fun x hx => h4 x ?_)⟩
      obtain rfl : x = g q := by simpa using hx
      simp only [ownL, List.mem_cons, List.mem_append, List.mem_map, List.mem_range]
      exact .inr (.inr (.inr (.inr (.inr ⟨q, by omega, rfl⟩))))
theorem LS.mono {ok' : Nat → Prop} (h : LS w ok P K V N A rows) (hm : ∀ b, b < w.heap.size → ok b → ok' b) : LS w ok' P K V N A rows := by
  obtain ⟨M, U, Rm, g, E, h1, h2, h3, h4⟩ := h
  exact ⟨M, U, Rm, g, E, h1, h2, h3, fun b hb => hm b (h1.lt b hb) (h4 b hb)⟩
end
/-- A lru that is new since w. -/
def LB (w wx : World) (P K V N : Nat) (A : LSt) (rows : List (List Int)) : Prop := LS wx (fun b => w.heap.size ≤ b) P K V N A rows ∧ But [] w wx
/-- What turns between wy and w', of what was there in wx, is new since w; so is all that is later than wy. -/
def TurnsB (w wx wy w' : World) : Prop := ∃ L, (∀ x ∈ L, w.heap.size ≤ x ∧ (x < wx.heap.size ∨ wy.heap.size ≤ x)) ∧ But L wy w'
theorem TurnsB.top {w wx wy w' : World} (h : TurnsB w wx wy w') : ∃ L, (∀ x ∈ L, w.heap.size ≤ x) ∧ But L wy w' := by
  obtain ⟨L, h1, h2⟩ := h
  exact ⟨L, fun x hx => (h1 x hx).1, h2⟩
section
variable {w wx wy : World} {P K V N : Nat} {A : LSt} {rows : List (List Int)}
theorem LB.at' (h : LB w wx P K V N A rows) (hb : But [] wx wy) : LS wy (fun b => w.heap.size ≤ b ∧ (b < wx.heap.size ∨ wy.heap.size ≤ b)) P K V N A rows :=
  (h.1.mono (ok' := fun b => w.heap.size ≤ b ∧ (b < wx.heap.size ∨ wy.heap.size ≤ b)) (fun b h1 h2 => ⟨h2, .inl h1⟩)).keep hb (by simp)
theorem LB.back {w' : World} (h : LB w wx P K V N A rows) (hb : But [] wx wy) {A' : LSt} {rows' : List (List Int)} (h1 : LS w' (fun b => w.heap.size ≤ b ∧ (b < wx.heap.size ∨ wy.heap.size ≤ b)) P K V N A' rows') (h2 : Turns (fun b => w.heap.size ≤ b ∧ (b < wx.heap.size ∨ wy.heap.size ≤ b)) wy w') : LB w w' P K V N A' rows' ∧ TurnsB w wx wy w' := by
  obtain ⟨L, hL, hb2⟩ := h2
  exact ⟨⟨h1.mono (fun b _ h => h.1), (h.2.trans hb (by simp)).trans hb2 (fun x hx => .inr (hL x hx).1)⟩, L, hL, hb2⟩
theorem LB.keep {wz : World} (h : LB w wx P K V N A rows) (hb : But [] wx wz) : LB w wz P K V N A rows := ⟨h.1.keep hb (by simp), h.2.trans hb (by simp)⟩
theorem LB.lookup (h : LB w wx P K V N A rows) (hb : But [] wx wy) (a : Option Addr) (c : Nat) {ks : List Int} (hs : Sees wy (.slice a ks.length c) (u8s ks)) (hk : ByteL ks) :
    Calls Try.prog 11 #[.pointer (some ⟨P, 0, none⟩), .slice a ks.length c] wy fun r w' => r = .returned (.tuple #[.int .i64 (lookA K A ks).1, .int .i64 (lookA K A ks).2.1]) ∧ LB w w' P K V N (lookA K A ks).2.2 rows ∧ TurnsB w wx wy w' := by
  refine ((h.at' hb).lookup a c hs hk).mono ?_
  rintro r w' ⟨rfl, h1, h2⟩
  exact ⟨rfl, h.back hb h1 h2⟩
theorem LB.delete (h : LB w wx P K V N A rows) (hb : But [] wx wy) (a : Option Addr) (c : Nat) {ks : List Int} (hs : Sees wy (.slice a ks.length c) (u8s ks)) (hk : ByteL ks) :
    Calls Try.prog 15 #[.pointer (some ⟨P, 0, none⟩), .slice a ks.length c] wy fun r w' => r = .returned (.int .i64 (delA K A ks).1) ∧ LB w w' P K V N (delA K A ks).2 rows ∧ TurnsB w wx wy w' := by
  refine ((h.at' hb).delete a c hs hk).mono ?_
  rintro r w' ⟨rfl, h1, h2⟩
  exact ⟨rfl, h.back hb h1 h2⟩
/-- An argument's block: it was there ahead of w, or is laid behind wx. -/
def Off (w wx wy : World) (a : Option Addr) (n c : Nat) : Prop := 0 < n → ∀ b, (Value.slice a n c).ownBlock = some b → b < wy.heap.size ∧ (b < w.heap.size ∨ wx.heap.size ≤ b)
theorem Off.no {w wx wy : World} {a : Option Addr} {n c : Nat} (h : Off w wx wy a n c) : 0 < n → ∀ b, (Value.slice a n c).ownBlock = some b → ¬ (w.heap.size ≤ b ∧ (b < wx.heap.size ∨ wy.heap.size ≤ b)) := fun h0 b hb => by
  have := h h0 b hb
  omega
theorem Off.old {w0 w wx wy : World} {a : Option Addr} {c : Nat} {xs : List Value} (h : Sees w0 (.slice a xs.length c) xs) (h1 : w0.heap.size ≤ w.heap.size) (h2 : w.heap.size ≤ wy.heap.size) : Off w wx wy a xs.length c := fun h0 b hb => by
  have hlt : b < w0.heap.size := by
    rcases h with ⟨e, h3⟩ | ⟨ad, c', e, hc, hx⟩
    · simp only [Value.slice.injEq] at e
      omega
    · simp only [Value.slice.injEq] at e
      obtain ⟨rfl, _, rfl⟩ := e
      have h4 := hx 0 xs[0] (List.getElem?_eq_getElem h0)
      have h5 := cell_lt h4
      have hbb : ad.block = b := by
        cases hs : ad.spot <;> simp_all [Value.ownBlock]
      rw [← hbb]
      exact h5
  omega
theorem LB.update (h : LB w wx P K V N A rows) (hb : But [] wx wy) (a : Option Addr) (c : Nat) {ks : List Int} (hs : Sees wy (.slice a ks.length c) (u8s ks)) (hk : ByteL ks) (vb : Option Addr) (vc : Nat) {vs : List Int} (hvs : Sees wy (.slice vb vs.length vc) (u8s vs)) (hv : ByteL vs) (f : Int) (hf0 : 0 ≤ f)
    (hko : Off w wx wy a ks.length c) (hvo : Off w wx wy vb vs.length vc) (hK : 1 ≤ K) (hV : 1 ≤ V) :
    Calls Try.prog 10 #[.pointer (some ⟨P, 0, none⟩), .slice a ks.length c, .slice vb vs.length vc, .int .u64 f] wy fun r w' => r = .returned (.int .i64 (updA K V N A rows ks vs f).1) ∧ LB w w' P K V N (updA K V N A rows ks vs f).2.1 (updA K V N A rows ks vs f).2.2 ∧ TurnsB w wx wy w' := by
  have hsz : w.heap.size ≤ wy.heap.size := Nat.le_trans h.2.size hb.size
  refine ((h.at' hb).update a c hs hk vb vc hvs hv f hf0 hko.no hvo.no hK hV (fun b hb => ⟨by omega, .inr hb⟩)).mono ?_
  rintro r w' ⟨rfl, h1, h2⟩
  exact ⟨rfl, h.back hb h1 h2⟩
theorem LB.value (h : LB w wx P K V N A rows) (hb : But [] wx wy) (p : Int) :
    Calls Try.prog 17 #[.pointer (some ⟨P, 0, none⟩), .int .i64 p] wy fun e w' => ∃ v, e = .returned (.tuple #[v, .int .i64 (valA N rows p).2]) ∧ NewRow wy w' v (valA N rows p).1 ∧ LB w w' P K V N A rows ∧ But [] wy w' := by
  refine ((h.at' hb).value p).mono ?_
  rintro e w' ⟨v, rfl, h1, h2⟩
  exact ⟨v, rfl, h1, (h.keep hb).keep h2, h2⟩
end
theorem newLB (K V N : Nat) (w : World) (hE : specE 3 K V N = 0) :
    Calls Try.prog 9 #[.agg #[.int .u8 3, .int .i64 K, .int .i64 V, .int .i64 N]] w fun e w' => ∃ P, e = .returned (.tuple #[.pointer (some ⟨P, 0, none⟩), .int .i64 0]) ∧ LB w w' P K V N [] (List.replicate N (List.replicate V 0)) := by
  refine (newLS K V N w hE (fun b => w.heap.size ≤ b) (fun b hb => hb)).mono ?_
  rintro e w' ⟨P, rfl, h1, h2⟩
  exact ⟨P, rfl, h1, h2⟩
end Go.Proofs.Ytifgfnifadmoaaa.M
