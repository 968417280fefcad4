/-
  LruDoes, plain: a round's state; both News at once.
-/
import Derived.Test.YtifgfnifadmoaaaDoesS
import Derived.Test.YtifgfnifadmoaaaLightL
import Derived.Test.YtifgfnifadmoaaaLruNew2
namespace Go.Proofs.Ytifgfnifadmoaaa.M
open Go.RowKit
set_option linter.unusedVariables false
set_option linter.unusedSectionVars false
set_option linter.unusedSimpArgs false
structure RD (w W : World) (P X K V N db gk gv Sb : Nat) (OB OS : Obj) (ks bs : List Int) (A : LSt) (rows : List (List Int)) (B : LSt) (rowsB : List (List Int)) : Prop where
  dl : DL w W [gv, gk, db, Sb] P X K V N A rows B rowsB
  box : W.heap[db]? = some OB
  spec : W.heap[Sb]? = some OS
  key : Lent W (.slice (some ⟨gk, 0, none⟩) ks.length (ks.length + 12)) (u8s ks)
  val : Lent W (.slice (some ⟨gv, 0, none⟩) bs.length (bs.length + 12)) (u8s bs)
/-- What stands at the head of the deeds' loop. -/
def DoR (w W : World) (P X K V N Sb : Nat) (OS : Obj) : Prop := ∃ A rows, DL w W [Sb] P X K V N A rows A rows ∧ W.heap[Sb]? = some OS
def DoM (w W : World) (P X K V N db gk gv Sb : Nat) (OB OS : Obj) (ks bs : List Int) : Prop := ∃ A rows, RD w W P X K V N db gk gv Sb OB OS ks bs A rows A rows
section
variable {w W : World} {P X K V N db gk gv Sb : Nat} {OB OS : Obj} {ks bs : List Int} {A B : LSt} {rows rowsB : List (List Int)}
theorem RD.step {w' : World} {A' B' : LSt} {rows' rowsB' : List (List Int)} (h : RD w W P X K V N db gk gv Sb OB OS ks bs A rows B rowsB) (hd : DL w w' [gv, gk, db, Sb] P X K V N A' rows' B' rowsB') (hk : KeptX [gv, gk, db, Sb] w W w') : RD w w' P X K V N db gk gv Sb OB OS ks bs A' rows' B' rowsB' := by
  refine ⟨hd, hk.heap h.box (by simp), hk.heap h.spec (by simp), ?_, ?_⟩
  · obtain ⟨L, hb, hL⟩ := hk
    exact h.key.but hb (fun b hb' hm => by cases hb'; exact (hL gk hm).2 (by simp))
  · obtain ⟨L, hb, hL⟩ := hk
    exact h.val.but hb (fun b hb' hm => by cases hb'; exact (hL gv hm).2 (by simp))
theorem RD.keep {w' : World} (h : RD w W P X K V N db gk gv Sb OB OS ks bs A rows B rowsB) (hb : But [] W w') : RD w w' P X K V N db gk gv Sb OB OS ks bs A rows B rowsB :=
  h.step (h.dl.keep hb (by simp)) ⟨[], hb, by simp⟩
theorem RD.ksees (h : RD w W P X K V N db gk gv Sb OB OS ks bs A rows B rowsB) : Sees W (.slice (some ⟨gk, 0, none⟩) ks.length (ks.length + 12)) (u8s ks) := h.key.sees
theorem RD.vsees (h : RD w W P X K V N db gk gv Sb OB OS ks bs A rows B rowsB) : Sees W (.slice (some ⟨gv, 0, none⟩) bs.length (bs.length + 12)) (u8s bs) := h.val.sees
theorem RD.lookT (h : RD w W P X K V N db gk gv Sb OB OS ks bs A rows B rowsB) (hk : ByteL ks) :
    Calls Try.prog 11 #[.pointer (some ⟨P, 0, none⟩), .slice (some ⟨gk, 0, none⟩) ks.length (ks.length + 12)] W fun r w' => r = .returned (.tuple #[.int .i64 (lookA K A ks).1, .int .i64 (lookA K A ks).2.1]) ∧ RD w w' P X K V N db gk gv Sb OB OS ks bs (lookA K A ks).2.2 rows B rowsB := by
  refine (h.dl.lookT _ _ h.ksees hk).mono ?_
  rintro r w' ⟨rfl, h1, h2⟩
  exact ⟨rfl, h.step h1 h2⟩
theorem RD.lookR (h : RD w W P X K V N db gk gv Sb OB OS ks bs A rows B rowsB) (a : Option Addr) (c : Nat) (hs : Sees w (.slice a ks.length c) (u8s ks)) (hk : ByteL ks) :
    Calls Try.prog 20 #[.pointer (some ⟨X, 0, none⟩), .slice a ks.length c] W fun r w' => r = .returned (.tuple #[.int .i64 (lookA K B ks).1, .int .i64 (lookA K B ks).2.1]) ∧ RD w w' P X K V N db gk gv Sb OB OS ks bs A rows (lookA K B ks).2.2 rowsB := by
  refine (h.dl.lookR a c (hs.but h.dl.but (by simp)) hk).mono ?_
  rintro r w' ⟨rfl, h1, h2⟩
  exact ⟨rfl, h.step h1 h2⟩
theorem RD.delT (h : RD w W P X K V N db gk gv Sb OB OS ks bs A rows B rowsB) (hk : ByteL ks) :
    Calls Try.prog 15 #[.pointer (some ⟨P, 0, none⟩), .slice (some ⟨gk, 0, none⟩) ks.length (ks.length + 12)] W fun r w' => r = .returned (.int .i64 (delA K A ks).1) ∧ RD w w' P X K V N db gk gv Sb OB OS ks bs (delA K A ks).2 rows B rowsB := by
  refine (h.dl.delT _ _ h.ksees hk).mono ?_
  rintro r w' ⟨rfl, h1, h2⟩
  exact ⟨rfl, h.step h1 h2⟩
theorem RD.delR (h : RD w W P X K V N db gk gv Sb OB OS ks bs A rows B rowsB) (a : Option Addr) (c : Nat) (hs : Sees w (.slice a ks.length c) (u8s ks)) (hk : ByteL ks) :
    Calls Try.prog 21 #[.pointer (some ⟨X, 0, none⟩), .slice a ks.length c] W fun r w' => r = .returned (.int .i64 (delA K B ks).1) ∧ RD w w' P X K V N db gk gv Sb OB OS ks bs A rows (delA K B ks).2 rowsB := by
  refine (h.dl.delR a c (hs.but h.dl.but (by simp)) hk).mono ?_
  rintro r w' ⟨rfl, h1, h2⟩
  exact ⟨rfl, h.step h1 h2⟩
theorem RD.updT (h : RD w W P X K V N db gk gv Sb OB OS ks bs A rows B rowsB) (hk : ByteL ks) (hv : ByteL bs) (f : Int) (hf0 : 0 ≤ f) (hK : 1 ≤ K) (hV : 1 ≤ V) :
    Calls Try.prog 10 #[.pointer (some ⟨P, 0, none⟩), .slice (some ⟨gk, 0, none⟩) ks.length (ks.length + 12), .slice (some ⟨gv, 0, none⟩) bs.length (bs.length + 12), .int .u64 f] W fun r w' => r = .returned (.int .i64 (updA K V N A rows ks bs f).1) ∧ RD w w' P X K V N db gk gv Sb OB OS ks bs (updA K V N A rows ks bs f).2.1 (updA K V N A rows ks bs f).2.2 B rowsB := by
  refine (h.dl.updT gk gv _ _ (by simp) (by simp) h.ksees hk h.vsees hv f hf0 hK hV).mono ?_
  rintro r w' ⟨rfl, h1, h2⟩
  exact ⟨rfl, h.step h1 h2⟩
theorem RD.updR (h : RD w W P X K V N db gk gv Sb OB OS ks bs A rows B rowsB) (a vb : Option Addr) (c vc : Nat) (hs : Sees w (.slice a ks.length c) (u8s ks)) (hk : ByteL ks) (hvs : Sees w (.slice vb bs.length vc) (u8s bs)) (hv : ByteL bs) (f : Int) (hpn : (B.map (·.2)).Nodup) :
    Calls Try.prog 28 #[.pointer (some ⟨X, 0, none⟩), .slice a ks.length c, .slice vb bs.length vc, .int .u64 f] W fun r w' => r = .returned (.int .i64 (updA K V N B rowsB ks bs f).1) ∧ RD w w' P X K V N db gk gv Sb OB OS ks bs A rows (updA K V N B rowsB ks bs f).2.1 (updA K V N B rowsB ks bs f).2.2 := by
  refine (h.dl.updR a vb c vc hs hk hvs hv f hpn).mono ?_
  rintro r w' ⟨rfl, h1, h2⟩
  exact ⟨rfl, h.step h1 h2⟩
theorem RD.setT (h : RD w W P X K V N db gk gv Sb OB OS ks bs A rows B rowsB) (p off : Int) (hv : ByteL bs) (hn : bs.length ≤ 140737488351232) :
    Calls Try.prog 25 #[.pointer (some ⟨P, 0, none⟩), .int .i64 p, .int .i64 off, .slice (some ⟨gv, 0, none⟩) bs.length (bs.length + 12)] W fun r w' => r = .returned (.int .i64 (setA V N rows p off bs).1) ∧ RD w w' P X K V N db gk gv Sb OB OS ks bs A (setA V N rows p off bs).2 B rowsB := by
  refine (h.dl.setT p off _ _ h.vsees hv hn).mono ?_
  rintro r w' ⟨rfl, h1, h2⟩
  exact ⟨rfl, h.step h1 h2⟩
theorem RD.setR (h : RD w W P X K V N db gk gv Sb OB OS ks bs A rows B rowsB) (p off : Int) (vb : Option Addr) (vc : Nat) (hvs : Sees w (.slice vb bs.length vc) (u8s bs)) (hv : ByteL bs) (hn : bs.length ≤ 140737488351232) :
    Calls Try.prog 26 #[.pointer (some ⟨X, 0, none⟩), .int .i64 p, .int .i64 off, .slice vb bs.length vc] W fun r w' => r = .returned (.int .i64 (setA V N rowsB p off bs).1) ∧ RD w w' P X K V N db gk gv Sb OB OS ks bs A rows B (setA V N rowsB p off bs).2 := by
  refine (h.dl.setR p off vb vc (hvs.but h.dl.but (by simp)) hv hn).mono ?_
  rintro r w' ⟨rfl, h1, h2⟩
  exact ⟨rfl, h.step h1 h2⟩
/-- The lent rows are written over: the round's end. -/
theorem RD.over {w' : World} {L : List Nat} (h : RD w W P X K V N db gk gv Sb OB OS ks bs A rows A rows) (hg : w.heap.size ≤ gk ∧ w.heap.size ≤ gv) (hne : gk ≠ Sb ∧ gv ≠ Sb) (hb : But L W w') (hL : ∀ x ∈ L, x = gk ∨ x = gv) : DoR w w' P X K V N Sb OS := by
  refine ⟨A, rows, (h.dl.keep hb (fun x hx => ?_)).sub (by simp), hb.heap h.spec (fun hm => ?_)⟩
  · rcases hL x hx with rfl | rfl
    · exact ⟨by simp, hg.1⟩
    · exact ⟨by simp, hg.2⟩
  · rcases hL _ hm with e | e
    · exact hne.1 e.symm
    · exact hne.2 e.symm
end
theorem newRow_but {w0 w w' : World} {v : Value} {bs : List Int} (h : NewRow w0 w v bs) (hb : But [] w w') : NewRow w0 w' v bs := by
  obtain ⟨a, c, e, h1, h2⟩ := h
  exact ⟨a, c, e, h1.but hb (by simp), h2⟩
/-- Keys that were told: rows that may be written over. -/
structure KeyL (base : Nat) (W : World) (a : Option Addr) (n c : Nat) (vals : List Value) : Prop where
  own : OwnQ W 25 (.slice a n c) vals
  rows : ∀ v ∈ vals, OverRow base W v
theorem KeyL.keep {base : Nat} {W W' : World} {a : Option Addr} {n c : Nat} {vals : List Value} (h : KeyL base W a n c vals) (hb : But [] W W') : KeyL base W' a n c vals :=
  ⟨h.own.but hb (by simp), fun v hv => by
    obtain ⟨g, m, c, cur, f, h1, h2, h3, h4, h5, h6⟩ := h.rows v hv
    exact ⟨g, m, c, cur, f, h1, h2, h3, h4, hb.heap h5 (by simp), h6⟩⟩
theorem KeyL.over {base : Nat} {W : World} {a : Option Addr} {n c : Nat} {vals : List Value} (h : KeyL base W a n c vals) {v : Value} (hv : v ∈ vals) :
    Calls Try.prog 24 #[v] W fun e w' => e = .returned (.tuple #[]) ∧ KeyL base w' a n c vals ∧ ∃ L, But L W w' ∧ ∀ x ∈ L, base ≤ x := by
  obtain ⟨g, m, c1, cur, f, rfl, h2, h3, h4, h5, h6, h7⟩ := h.rows v hv
  refine (overF g 0 m c1 cur f W h7 h5 (by omega) h2 (by omega)).mono ?_
  rintro e w' ⟨rfl, hb, cu, hg, hz⟩
  refine ⟨rfl, ⟨h.own.but hb (fun b hb' hm => ?_), fun u hu => ?_⟩, [g], hb, fun x hx => by have e : x = g := (by simpa using hx); rw [e]; exact h4⟩
  · have e : b = g := (by simpa using hm)
    subst e
    obtain ⟨cur', hc⟩ := h.own.tag _ hb'
    rw [h5] at hc
    simp only [Option.some.injEq, Obj.cells.injEq] at hc
    exact absurd hc.2.1 (by decide)
  · obtain ⟨g2, m2, c2, cur2, f2, e2, k2, k3, k4, k5, k6, k7⟩ := h.rows u hu
    by_cases e : g2 = g
    · subst e
      rw [h5] at k5
      simp only [Option.some.injEq, Obj.cells.injEq] at k5
      obtain ⟨rfl, _, rfl⟩ := k5
      exact ⟨g2, m2, c2, cu, f, e2, k2, k3, k4, hg, by omega, fun j hj => k7 j (by omega)⟩
    · exact ⟨g2, m2, c2, cur2, f2, e2, k2, k3, k4, hb.heap k5 (by simpa using e), k6, k7⟩
theorem KeyL.at' {base : Nat} {W : World} {a : Option Addr} {n c : Nat} {vals : List Value} (h : KeyL base W a n c vals) {k : Nat} (hk : k < n) : ∃ ad g m c', a = some ad ∧ W.cell? (ad.add k) = some (.slice (some ⟨g, 0, none⟩) m c') ∧ Value.slice (some ⟨g, 0, none⟩) m c' ∈ vals := by
  have hl := h.own.len
  obtain ⟨v, hv⟩ : ∃ v, vals[k]? = some v := ⟨_, List.getElem?_eq_getElem (by omega)⟩
  obtain ⟨g, m, c1, cur, f, rfl, _⟩ := h.rows v (List.mem_of_getElem? hv)
  obtain ⟨g0, o0, rfl⟩ := h.own.addr (by omega)
  exact ⟨_, g, m, c1, rfl, by rw [add_at]; exact h.own.cellAt hv, List.mem_of_getElem? hv⟩
theorem DL.keysTX {w W : World} {Bx : List Nat} {P R K V N : Nat} {A B : LSt} {rows rowsB : List (List Int)} (h : DL w W Bx P R K V N A rows B rowsB) (hN : N ≤ 1024) {X : List (List Int)} (hX : A.map (·.1) = X) :
    Calls Try.prog 12 #[.pointer (some ⟨P, 0, none⟩)] W fun e w' => ∃ a c, e = .returned (.slice a X.length c) ∧ SeesRows w' (.slice a X.length c) (X.map u8s) ∧ (∃ vals, KeyL W.heap.size w' a X.length c vals) ∧ But [] W w' := by
  subst hX
  rw [List.length_map]
  refine (h.keysT hN).mono ?_
  rintro e w' ⟨a, c, rfl, h1, ⟨vals, h2, h3, h4⟩, hb⟩
  exact ⟨a, c, rfl, h1, ⟨vals, h2, h4⟩, hb⟩
theorem DL.keysRX {w W : World} {Bx : List Nat} {P R K V N : Nat} {A B : LSt} {rows rowsB : List (List Int)} (h : DL w W Bx P R K V N A rows B rowsB) {X : List (List Int)} (hX : B.map (·.1) = X) :
    Calls Try.prog 27 #[.pointer (some ⟨R, 0, none⟩)] W fun e w' => ∃ a c, e = .returned (.slice a X.length c) ∧ SeesRows w' (.slice a X.length c) (X.map u8s) ∧ But [] W w' := by
  subst hX
  rw [List.length_map]
  exact h.keysR
theorem same_rowsX (a b : Option Addr) (c d : Nat) (X : List (List Int)) (w : World) (hs : SeesRows w (.slice a X.length c) (X.map u8s)) (ht : SeesRows w (.slice b X.length d) (X.map u8s)) (hl : ∀ r ∈ X, r.length ≤ 1000000000000) (hn : X.length ≤ 1048576) :
    Calls Try.prog 16 #[.slice a X.length c, .slice b X.length d] w fun e w' => e = .returned (.bool true) ∧ But [] w w' := by
  have := sameRows a b c d X X w hs ht hl hn
  rw [decide_eq_true rfl] at this
  exact this
theorem same_bytesX (a b : Option Addr) (c d : Nat) (xs : List Int) (w : World) (hs : Sees w (.slice a xs.length c) (u8s xs)) (ht : Sees w (.slice b xs.length d) (u8s xs)) (hl : xs.length ≤ 1000000000000) :
    Calls Try.prog 23 #[.slice a xs.length c, .slice b xs.length d] w fun e w' => e = .returned (.bool true) ∧ But [] w w' := by
  have := same _ _ xs xs w hs ht hl
  rw [decide_eq_true rfl] at this
  exact this
/-- Both News. -/
theorem bothNew (k key val ent : Int) (hk : (Lit.int .u8 k).wf = true) :
    (∃ E : Int, (E != 0) = true ∧ (E == 0) = false ∧ (∀ w, Calls Try.prog 9 #[.agg #[.int .u8 k, .int .i64 key, .int .i64 val, .int .i64 ent]] w fun e w' => e = .returned (.tuple #[.pointer none, .int .i64 E]) ∧ But [] w w') ∧ ∀ w, Calls Try.prog 18 #[.agg #[.int .u8 k, .int .i64 key, .int .i64 val, .int .i64 ent]] w fun e w' => e = .returned (.tuple #[.pointer none, .int .i64 E]) ∧ But [] w w') ∨
    (∃ K V N : Nat, k = 3 ∧ key = K ∧ val = V ∧ ent = N ∧ ((1 ≤ K ∧ K ≤ 64) ∧ (1 ≤ V ∧ V ≤ 1024) ∧ (1 ≤ N ∧ N ≤ 1024)) ∧ (∀ w, Calls Try.prog 9 #[.agg #[.int .u8 3, .int .i64 K, .int .i64 V, .int .i64 N]] w fun e w' => ∃ P, e = .returned (.tuple #[.pointer (some ⟨P, 0, none⟩), .int .i64 0]) ∧ LB w w' P K V N [] (List.replicate N (List.replicate V 0))) ∧ ∀ w, Calls Try.prog 18 #[.agg #[.int .u8 3, .int .i64 K, .int .i64 V, .int .i64 N]] w fun e w' => ∃ X a c vals, e = .returned (.tuple #[.pointer (some ⟨X, 0, none⟩), .int .i64 0]) ∧ NewR K N w w' X V a c vals ∧ vals.length = N) := by
  by_cases h0 : specE k key val ent = 0
  · by_cases h3 : k = 3
    · subst h3
      obtain ⟨hK, hV, hN⟩ := specE_lru h0
      obtain ⟨K, rfl⟩ : ∃ n : Nat, key = n := ⟨key.toNat, by omega⟩
      obtain ⟨V, rfl⟩ : ∃ n : Nat, val = n := ⟨val.toNat, by omega⟩
      obtain ⟨N, rfl⟩ : ∃ n : Nat, ent = n := ⟨ent.toNat, by omega⟩
      exact .inr ⟨K, V, N, rfl, rfl, rfl, rfl, by omega, fun w => newLB K V N w h0, fun w => refNewL K V N w h0⟩
    · exact .inl ⟨9, rfl, rfl, fun w => newKind k key val ent w hk h0 (by simpa using h3), fun w => refNewKind k key val ent w h0 (by simpa using h3)⟩
  · exact .inl ⟨_, by simpa using h0, by simpa using h0, fun w => newErr k key val ent _ w hk rfl (by simpa using h0), fun w => refNewErr k key val ent _ w rfl (by simpa using h0)⟩
theorem newDL {K V N : Nat} {w w1 w3 w4 : World} {P X Sb : Nat} {a : Option Addr} {c : Nat} {vals : List Value} (hb : But [] w w1) (hs : Sb < w1.heap.size) (h : LB w1 w3 P K V N [] (List.replicate N (List.replicate V 0))) (h2 : NewR K N w3 w4 X V a c vals) (hl : vals.length = N) (hbd : (1 ≤ K ∧ K ≤ 64) ∧ (1 ≤ V ∧ V ≤ 1024) ∧ (1 ≤ N ∧ N ≤ 1024)) : DL w w4 [Sb] P X K V N [] (List.replicate N (List.replicate V 0)) [] (List.replicate N (List.replicate V 0)) := by
  have hb3 : But [] w w3 := hb.trans h.2 (by simp)
  have hlo : LO w w3 (fun b => w1.heap.size ≤ b ∧ b < w3.heap.size) P K V N [] (List.replicate N (List.replicate V 0)) := ⟨h.1.mono (fun b hb h => ⟨h, hb⟩), fun b h => ⟨Nat.le_trans hb.size h.1, h.2⟩, hb3⟩
  refine ⟨_, fun b => w3.heap.size ≤ b ∧ b < w4.heap.size, hlo.keep h2.but (by simp), (refL_new h2 hl hbd).also (fun x hx hk => ⟨hk, hx⟩), fun b hb' => ⟨Nat.le_trans hb3.size hb'.1, hb'.2⟩, fun b hs ht => by have := hs.2; have := ht.1; omega, fun b hb' => ?_⟩
  have e : b = Sb := (by simpa using hb')
  have h8 := h.2.size
  have h9 := h2.but.size
  subst e
  exact ⟨fun hx => by have := hx.1; omega, fun hx => by have := hx.1; omega, by omega⟩
end Go.Proofs.Ytifgfnifadmoaaa.M
